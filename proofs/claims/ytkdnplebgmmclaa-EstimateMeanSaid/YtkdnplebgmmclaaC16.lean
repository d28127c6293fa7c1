/- Lives25W, MeanW, MeanL -/
import Derived.Test.YtkdnplebgmmclaaC15
/- The example of layer 25: its sizes, mean and spread. -/
namespace Go.Proofs.Ytkdnplebgmmclaa
open Go.RowKit
set_option linter.unusedSimpArgs false
set_option linter.unusedVariables false

theorem sizes_any (a : Value) (ts : List Fc) (w : World) (ha : FacsG w a ts) (hb : ts.length ≤ 1048576) (hl : ∀ t ∈ ts, t.a.length ≤ 4398046511104) :
    Calls Try.prog 16 #[a] w fun e w' => ∃ v, e = .returned v ∧ OwnL 3 w.heap.size 64 (RSz w.heap.size) w' v (sizesOf (sortU cmpF ts)) ∧ Fut w w' := by
  have hm := fun t => (sortU_spec (tot_of ordF) ts).2 t
  obtain ⟨A, cap, hv, _, _⟩ := ha.form
  exact sizes_of a (sortU cmpF ts) w (fun w0 hf => facts_any _ ts w0 (ha.fut RG.stays hf) (by omega) hl) (Nat.le_trans (sortU_len ts) hb) (fun t ht => hl t ((hm t).1 ht)) (fun f hf v hv => (FacsG.oks ha f ((hm f).1 hf)).2 v hv) ⟨_, _, _, hv⟩
theorem facs_two' (w : World) (n : Nat) (f g : Fc) (u v : Value) (hn : n = w.heap.size) (hu : Vals w u f.a) (hv : Vals w v g.a) (hp : f.p.size ≤ 140737488351232) (hq : g.p.size ≤ 140737488351232) :
    FacsG (w.alloc (.cells #[.string f.p, u, .string g.p, v] 33)) (.slice (some ⟨n, 0, none⟩) 2 2) [f, g] := by
  subst hn
  have hF := Fut.alloc w (.cells #[.string f.p, u, .string g.p, v] 33)
  refine ⟨_, 2, rfl, Nat.le_refl _, by omega, fun i x hx => ?_⟩
  have hil : i < 2 := (List.getElem?_eq_some_iff.1 hx).1
  rcases (by omega : i = 0 ∨ i = 1) with rfl | rfl
  · simp at hx
    subst hx
    refine ⟨_, 0, [.string f.p, u], rfl, rfl, fun j c hj => ?_, u, rfl, hp, hu.fut RV.stays hF⟩
    have hjl : j < 2 := (List.getElem?_eq_some_iff.1 hj).1
    refine (World.cell?_alloc_mark w _ _ (0, 0) _).trans ?_
    rcases (by omega : j = 0 ∨ j = 1) with rfl | rfl <;> simpa using hj
  · simp at hx
    subst hx
    refine ⟨_, 0, [.string g.p, v], rfl, rfl, fun j c hj => ?_, v, rfl, hq, hv.fut RV.stays hF⟩
    have hjl : j < 2 := (List.getElem?_eq_some_iff.1 hj).1
    refine (World.cell?_alloc_mark w _ _ (0, 0) _).trans ?_
    rcases (by omega : j = 0 ∨ j = 1) with rfl | rfl <;> simpa using hj
set_option maxHeartbeats 400000 in
theorem rnum_any (n : Int) (w : World) : Calls Try.prog 7 #[.int .i64 n] w fun e w' => e = .returned (nV n).val ∧ Fut w w' := by
  unfold nV V.val
  go_enter Try.func7, Try.ntmps7
  go_wp2
  exact bodyPost_ret (v := .agg #[.int .i8 1, .int .i64 n, .string ⟨#[]⟩]) (by simp [results, Try.results7, go_sem]) rfl ⟨rfl, Fut.alloc _ _⟩
theorem nV_ok (n : Int) (h : (Lit.int .i64 n).wf = true) : (nV n).ok := ⟨(by decide : (Lit.int .i8 1).wf = true), h, Nat.zero_le _⟩
set_option maxHeartbeats 1600000 in
set_option maxRecDepth 100000 in
theorem lives25_any (w : World) : Calls Try.prog 5 #[] w fun e w' => e = .returned (.bool true) ∧ Fut w w' := by
  have k1 : (Lit.int .i64 1).wf = true := by decide
  have k2 : (Lit.int .i64 2).wf = true := by decide
  have k4 : (Lit.int .i64 4).wf = true := by decide
  go_enter Try.func5, Try.ntmps5
  go_wp2_with fail
  refine (rnum_any 1 _).mono ?_
  rintro e w1 ⟨rfl, h1⟩
  go_wp2_with fail
  refine (rnum_any 2 _).mono ?_
  rintro e w2 ⟨rfl, h2⟩
  simp only [nV, V.val]
  go_wp2_with fail
  have hv1 := vals_two w2 (nV 1) (nV 2) (nV_ok _ k1) (nV_ok _ k2) 29
  simp only [nV] at hv1
  have f3 := Fut.alloc w2 (.cells #[.int .i8 1, .int .i64 1, .string ⟨#[]⟩, .int .i8 1, .int .i64 2, .string ⟨#[]⟩] 29)
  obtain ⟨w3, hW⟩ : ∃ W, w2.alloc (.cells #[.int .i8 1, .int .i64 1, .string ⟨#[]⟩, .int .i8 1, .int .i64 2, .string ⟨#[]⟩] 29) = W := ⟨_, rfl⟩
  rw [hW] at hv1 f3 ⊢
  clear hW
  have F3 := Lib.hid ((h1.trans h2).trans f3)
  clear h1 h2 f3
  refine (rnum_any 1 _).mono ?_
  rintro e w4 ⟨rfl, h4⟩
  go_wp2_with fail
  refine (rnum_any 4 _).mono ?_
  rintro e w5 ⟨rfl, h5⟩
  simp only [nV, V.val]
  have f35 := h4.trans h5
  have hv2 := vals_two w5 (nV 1) (nV 4) (nV_ok _ k1) (nV_ok _ k4) 29
  simp only [nV] at hv2
  have f6 := Fut.alloc w5 (.cells #[.int .i8 1, .int .i64 1, .string ⟨#[]⟩, .int .i8 1, .int .i64 4, .string ⟨#[]⟩] 29)
  have hs6 : (w5.alloc (.cells #[.int .i8 1, .int .i64 1, .string ⟨#[]⟩, .int .i8 1, .int .i64 4, .string ⟨#[]⟩] 29)).heap.size = w5.heap.size + 1 := by simp
  have hf := facs_two' (w5.alloc (.cells #[.int .i8 1, .int .i64 1, .string ⟨#[]⟩, .int .i8 1, .int .i64 4, .string ⟨#[]⟩] 29)) (w5.heap.size + 1) ⟨eB, [nV 1, nV 2]⟩ ⟨eB, [nV 1, nV 4]⟩ (.slice (some ⟨w2.heap.size, 0, none⟩) 2 2) (.slice (some ⟨w5.heap.size, 0, none⟩) 2 2) hs6.symm (hv1.fut RV.stays (f35.trans f6)) hv2 (by decide) (by decide)
  have f7 := f6.trans (Fut.alloc (w5.alloc (.cells #[.int .i8 1, .int .i64 1, .string ⟨#[]⟩, .int .i8 1, .int .i64 4, .string ⟨#[]⟩] 29)) (.cells #[.string eB, .slice (some ⟨w2.heap.size, 0, none⟩) 2 2, .string eB, .slice (some ⟨w5.heap.size, 0, none⟩) 2 2] 33))
  have F7 := Lib.hid ((F3.out.trans f35).trans f7)
  have HF := Lib.hid hf
  clear hf f7 hs6 f6 hv2 f35 hv1 h4 h5 F3
  go_wp2_with fail
  refine (sizes_any _ exF _ HF.out (by decide) (by decide)).mono ?_
  rintro e w8 ⟨v, rfl, hS, f8⟩
  rw [ex_sort, ex_sizes] at hS
  obtain ⟨A8, c8, rfl, _, _⟩ := hS.rep.form
  have HS := Lib.hid hS
  have F8 := Lib.hid f8
  clear hS f8
  go_wp2_with fail
  refine (share_any _ exF eB 1 _ (HF.out.fut RG.stays F8.out) (by decide) (by decide)).mono ?_
  rintro e w9 ⟨rfl, f9⟩
  rw [ex_sort, ex_nums, ex_mean, ex_spread]
  obtain ⟨b1, o1, A', cp, rfl, y0, y1, y2, y3⟩ := sz_at (k := 0) (HS.out.fut RSz.stays f9) (by decide)
  have i0 := in_at (k := 0) y3.rep (by decide)
  have i1 := in_at (k := 1) y3.rep (by decide)
  obtain ⟨b2, o2, rfl, z0⟩ := i0
  obtain ⟨b3, o3, hA3, z1⟩ := i1
  injection hA3 with hA3
  injection hA3 with e3 e4 _
  subst e3; subst e4
  have F9 := Lib.hid ((F7.out.trans F8.out).trans f9)
  have y0' : w9.cell? ⟨b1, o1, none⟩ = some (.string ⟨#[101]⟩) := y0
  have y1' : w9.cell? ⟨b1, o1 + 1, none⟩ = some (.int .i64 2) := y1
  have y2' : w9.cell? ⟨b1, o1 + 2, none⟩ = some (.slice (some ⟨b2, o2, none⟩) 2 cp) := y2
  have z0' : w9.cell? ⟨b2, o2, none⟩ = some (.int .i64 1) := z0
  have z1' : w9.cell? ⟨b2, o2 + 1, none⟩ = some (.int .i64 2) := z1
  clear HS HF f9 F7 F8 y3 y0 y1 y2 z0 z1
  go_wp2
  go_ret
  exact ⟨rfl, F9.out⟩
end Go.Proofs.Ytkdnplebgmmclaa
/- EstimateMean: small, good; lists of facts of the call's own, apart. -/
namespace Go.Proofs.Ytkdnplebgmmclaa
open Go.RowKit
set_option linter.unusedSimpArgs false
set_option linter.unusedVariables false

def okX (x : Int) : Prop := -1048576 ≤ x ∧ x ≤ 1048576
instance (x : Int) : Decidable (okX x) := inferInstanceAs (Decidable (_ ∧ _))
set_option maxHeartbeats 1000000 in
theorem small_any {M : Nat} (a : Value) (l : List Int) (w : World) (ha : SlRep 1 M RI w a l) (hM : M ≤ 9223372036854775807) :
    Calls Try.prog 6 #[a] w fun e w' => e = .returned (.bool (decide ((∀ x ∈ l, okX x) ∧ l.length ≤ 1024))) ∧ w' = w := by
  have HA := Lib.hid ha
  obtain ⟨A, ca, rfl, hl1, hl2⟩ := ha.form
  obtain ⟨b, hb⟩ : ∃ b, b = decide ((∀ x ∈ l, okX x) ∧ l.length ≤ 1024) := ⟨_, rfl⟩
  rw [← hb]
  replace hb := Lib.hid hb
  clear ha
  go_enter Try.func6, Try.ntmps6
  go_wp2_with fail
  go_loopw [3] (fun i wr => ∃ k : Nat, k ≤ l.length ∧ i = .int .i64 k ∧ wr = w ∧ Hid (∀ x ∈ l.take k, okX x)) (fun i _ => l.length - (intOf i).toNat)
  case atStart => exact ⟨0, Nat.zero_le _, rfl, rfl, Lib.hid (fun x hx => by simp at hx)⟩
  case round =>
    obtain ⟨k, hk, rfl, rfl, hG⟩ := hrel
    by_cases hlt : k < l.length
    · obtain ⟨b1, o1, rfl, x0⟩ := in_at HA.out hlt
      have hnx : l.take (k + 1) = l.take k ++ [l[k]] := List.take_succ_eq_append_getElem hlt
      have hmem := List.getElem_mem hlt
      generalize l[k] = z at *
      have hltI : (k : Int) < l.length := by omega
      have e0 : (0 : Int) ≤ k ∧ (k : Int) < l.length := by omega
      by_cases h1 : z < -1048576
      · obtain rfl : b = false := hb.out.trans (decide_eq_false (fun h => by have := h.1 z hmem; unfold okX at this; omega))
        go_wp2
        go_ret
        exact ⟨rfl, rfl⟩
      · by_cases h2 : z > 1048576
        · obtain rfl : b = false := hb.out.trans (decide_eq_false (fun h => by have := h.1 z hmem; unfold okX at this; omega))
          go_wp2
          go_ret
          exact ⟨rfl, rfl⟩
        · have hn : Hid (∀ x ∈ l.take (k + 1), okX x) := Lib.hid fun x hx => by
            rw [hnx, List.mem_append] at hx
            rcases hx with hx | hx
            · exact hG.out x hx
            · simp at hx; subst hx; unfold okX; omega
          replace hnx := Lib.hid hnx
          go_wp2
          go_roundw
          case rel => exact ⟨k + 1, by omega, by go_num, trivial, hn⟩
          case measure => simp [intOf] <;> omega
    · obtain rfl : k = l.length := by omega
      rw [List.take_length] at hG
      by_cases h3 : l.length ≤ 1024
      · have h3I : (l.length : Int) ≤ 1024 := by omega
        obtain rfl : b = true := hb.out.trans (decide_eq_true ⟨hG.out, h3⟩)
        go_wp2
        go_ret
        exact ⟨by first | rfl | simp [h3], rfl⟩
      · have h3I : ¬ (l.length : Int) ≤ 1024 := by omega
        obtain rfl : b = false := hb.out.trans (decide_eq_false (fun h => h3 h.2))
        go_wp2
        go_ret
        exact ⟨by first | rfl | simp [h3], rfl⟩
theorem sub_self {r : Nat} (hr : r < 2047 * 2 ^ 52) : Fl.D.sub (Fl.D.word false r) (Fl.D.word false r) = some 0 := by
  have h := Fl.sub_spec (s := false) (t := false) hr hr
  have hz : Fl.sv false r + Fl.sv (!false) r = 0 := by unfold Fl.sv; simp; omega
  rw [hz] at h
  have h0 := h.2.zero
  rw [h.1, h0]
  rfl
theorem ord_zero {r : Nat} (hr : r < 2047 * 2 ^ 52) : FloatKind.f64.format.order (Fl.D.word false r) 0 = some (compare (Fl.V r : Int) 0) := by
  have h := Fl.order_spec (s := false) (t := false) hr (show 0 < 2047 * 2 ^ 52 by decide)
  have h0 : Fl.sv false 0 = 0 := by unfold Fl.sv; rw [Fl.V_zero]; rfl
  rw [h0] at h
  exact h
theorem ord_zz : FloatKind.f64.format.order 0 0 = some .eq := by
  have h := ord_zero (show 0 < 2047 * 2 ^ 52 by decide)
  rw [Fl.V_zero] at h
  exact h
set_option maxHeartbeats 1000000 in
theorem good_any {r : Nat} (hr : r < 2047 * 2 ^ 52) (w : World) : Calls Try.prog 9 #[.float .f64 (Fl.D.word false r)] w fun e w' => e = .returned (.bool true) ∧ w' = w := by
  have q : floatBits .sub .f64 (Fl.D.word false r) (Fl.D.word false r) = some 0 := sub_self hr
  have hrun := fun W => run_float_arith (P := Try.prog) W .sub 34 .f64 _ _ _ q
  have ho := ord_zero hr
  have hz := ord_zz
  have hc : compare (Fl.V r : Int) 0 = .eq ∨ compare (Fl.V r : Int) 0 = .gt := by
    rcases Nat.eq_zero_or_pos (Fl.V r) with h | h
    · left; rw [h]; rfl
    · right; exact Int.compare_eq_gt.2 (by omega)
  generalize compare (Fl.V r : Int) 0 = c at *
  generalize Fl.D.word false r = x at *
  clear q
  rcases hc with rfl | rfl
  · go_enter Try.func9, Try.ntmps9
    go_wp2
    go_ret
    exact ⟨by first | rfl | simp, rfl⟩
  · go_enter Try.func9, Try.ntmps9
    go_wp2
    go_ret
    exact ⟨by first | rfl | simp, rfl⟩
def Ap (u v : Value) : Prop := ∀ k, u.ownBlock = some k → v.ownBlock ≠ some k
abbrev tFc : TypeId := 33
abbrev tVl : TypeId := 29
abbrev OwnFs (B : Nat) : World → Value → List Fc → Prop := OwnL 2 B tFc (RGo B tVl)
theorem tne : tVl ≠ tFc := by decide
theorem own_other {B : Nat} {W w' : World} {u v : Value} {xs ys : List Fc} (hu : OwnFs B W u xs) (hv : OwnFs B W v ys) (hap : Ap u v) (g : W.grownBy w' u.ownBlock) : OwnFs B w' v ys :=
  OwnL.only hv (fun cs x hx => RGo.keeps tne W w' _ cs x hx g hu.typed) (Only.grown (S := fun k => u.ownBlock = some k) g fun k hk => hk) (fun k hk h => hap k h hk)
theorem ap_new {W : World} {u u' v : Value} (hu : SameOrNew W u u') (hv : ∀ k, v.ownBlock = some k → k < W.heap.size) (h : Ap u v) : Ap u' v := fun k hk hv' => by
  rcases hu with e | e
  · exact h k (e ▸ hk) hv'
  · have := e k hk; have := hv k hv'; omega
theorem Ap.symm {u v : Value} (h : Ap u v) : Ap v u := fun k hk hu => h k hu hk
theorem own_vals2 {B : Nat} (w : World) (x y : V) (hx : x.ok) (hy : y.ok) (hB : B ≤ w.heap.size) : OwnL 3 B tVl RV (w.alloc (.cells #[.int .i8 x.k, .int .i64 x.n, .string x.s, .int .i8 y.k, .int .i64 y.n, .string y.s] tVl)) (.slice (some ⟨w.heap.size, 0, none⟩) 2 2) [x, y] :=
  ⟨[x.cells, y.cells], rfl, fun i cs z hi hz => by
    have hil := (List.getElem?_eq_some_iff.1 hi).1
    simp at hil
    rcases (by omega : i = 0 ∨ i = 1) with rfl | rfl
    · simp at hi hz; subst hi; subst hz; exact ⟨rfl, rfl, hx⟩
    · simp at hi hz; subst hi; subst hz; exact ⟨rfl, rfl, hy⟩, rfl, .inr ⟨w.heap.size, 2, _, rfl, hB, heap_alloc_new w _, Nat.le_refl _, by unfold maxLen; omega, rfl, rfl⟩⟩
theorem own_facs2 {B : Nat} (w : World) (f g : Fc) (u v : Value) (hu : OwnL 3 B tVl RV w u f.a) (hv : OwnL 3 B tVl RV w v g.a) (hp : f.p.size ≤ 140737488351232) (hq : g.p.size ≤ 140737488351232) (hB : B ≤ w.heap.size) :
    OwnFs B (w.alloc (.cells #[.string f.p, u, .string g.p, v] tFc)) (.slice (some ⟨w.heap.size, 0, none⟩) 2 2) [f, g] :=
  ⟨[[.string f.p, u], [.string g.p, v]], rfl, fun i cs z hi hz => by
    have hil := (List.getElem?_eq_some_iff.1 hi).1
    simp at hil
    rcases (by omega : i = 0 ∨ i = 1) with rfl | rfl
    · simp at hi hz; subst hi; subst hz; exact ⟨rfl, u, rfl, hp, hu.fut RV.stays (Fut.alloc _ _)⟩
    · simp at hi hz; subst hi; subst hz; exact ⟨rfl, v, rfl, hq, hv.fut RV.stays (Fut.alloc _ _)⟩, rfl, .inr ⟨w.heap.size, 2, _, rfl, hB, heap_alloc_new w _, Nat.le_refl _, by unfold maxLen; omega, rfl, rfl⟩⟩
def loF (l : List Int) (k : Nat) : Int := (l.take k).foldl min (l.getD 0 0)
def hiF (l : List Int) (k : Nat) : Int := (l.take k).foldl max (l.getD 0 0)
theorem loF_step {l : List Int} {k : Nat} (hk : k < l.length) : loF l (k + 1) = min (loF l k) l[k] := by
  unfold loF; rw [List.take_succ_eq_append_getElem hk, List.foldl_append]; rfl
theorem hiF_step {l : List Int} {k : Nat} (hk : k < l.length) : hiF l (k + 1) = max (hiF l k) l[k] := by
  unfold hiF; rw [List.take_succ_eq_append_getElem hk, List.foldl_append]; rfl
theorem fold_lo : ∀ (l : List Int) (a : Int), (l.foldl min a = a ∨ l.foldl min a ∈ l) ∧ l.foldl min a ≤ a ∧ ∀ x ∈ l, l.foldl min a ≤ x
  | [], a => ⟨.inl rfl, Int.le_refl _, fun x hx => by cases hx⟩
  | y :: l, a => by
    obtain ⟨h1, h2, h3⟩ := fold_lo l (min a y)
    rw [List.foldl_cons]
    refine ⟨?_, by omega, fun x hx => ?_⟩
    · rcases h1 with h1 | h1
      · rw [h1]
        by_cases h : a ≤ y
        · left; omega
        · right; rw [show min a y = y by omega]; exact List.mem_cons_self
      · exact .inr (List.mem_cons_of_mem _ h1)
    · rcases List.mem_cons.1 hx with rfl | hx
      · omega
      · exact h3 x hx
theorem fold_hi : ∀ (l : List Int) (a : Int), (l.foldl max a = a ∨ l.foldl max a ∈ l) ∧ a ≤ l.foldl max a ∧ ∀ x ∈ l, x ≤ l.foldl max a
  | [], a => ⟨.inl rfl, Int.le_refl _, fun x hx => by cases hx⟩
  | y :: l, a => by
    obtain ⟨h1, h2, h3⟩ := fold_hi l (max a y)
    rw [List.foldl_cons]
    refine ⟨?_, by omega, fun x hx => ?_⟩
    · rcases h1 with h1 | h1
      · rw [h1]
        by_cases h : a ≤ y
        · right; rw [show max a y = y by omega]; exact List.mem_cons_self
        · left; omega
      · exact .inr (List.mem_cons_of_mem _ h1)
    · rcases List.mem_cons.1 hx with rfl | hx
      · omega
      · exact h3 x hx
theorem lo_hi {l : List Int} (h0 : l ≠ []) : loF l l.length ∈ l ∧ hiF l l.length ∈ l ∧ ∀ x ∈ l, loF l l.length ≤ x ∧ x ≤ hiF l l.length := by
  have hm : l.getD 0 0 ∈ l := by
    cases l with
    | nil => exact absurd rfl h0
    | cons a r => simp
  unfold loF hiF
  rw [List.take_length]
  obtain ⟨a1, a2, a3⟩ := fold_lo l (l.getD 0 0)
  obtain ⟨b1, b2, b3⟩ := fold_hi l (l.getD 0 0)
  refine ⟨a1.elim (fun h => by rw [h]; exact hm) id, b1.elim (fun h => by rw [h]; exact hm) id, fun x hx => ⟨a3 x hx, b3 x hx⟩⟩
theorem rnum_agg (n : Int) (w : World) : Calls Try.prog 7 #[.int .i64 n] w fun e w' => e = .returned (.agg #[.int .i8 1, .int .i64 n, .string ⟨#[]⟩]) ∧ Fut w w' := rnum_any n w
end Go.Proofs.Ytkdnplebgmmclaa
/- EstimateMean: the lists of facts are built. -/
namespace Go.Proofs.Ytkdnplebgmmclaa
open Go.RowKit
set_option linter.unusedSimpArgs false
set_option linter.unusedVariables false

theorem infoFc : (Try.prog.info? tFc).map (fun i => (i.zero, i.size, i.bytes)) = some (some (.agg #[.string ⟨#[]⟩, .slice none 0 0]), 2, 40) := by kernel_rfl
/-- What the mean's law has built of k numbers. -/
structure Built (B : Nat) (g : Nat → Int) (k : Nat) (w : World) (a b c : Value) : Prop where
  oa : OwnFs B w a (aL (eF g) k)
  ob : OwnFs B w b (bL g k)
  oc : OwnFs B w c (aL (eF fun j => -(g j)) k)
  ab : Ap a b
  ac : Ap a c
  bc : Ap b c
theorem Built.fut {B : Nat} {g : Nat → Int} {k : Nat} {w w' : World} {a b c : Value} (h : Built B g k w a b c) (hf : Fut w w') : Built B g k w' a b c :=
  ⟨h.oa.fut RGo.stays hf, h.ob.fut RGo.stays hf, h.oc.fut RGo.stays hf, h.ab, h.ac, h.bc⟩
theorem Built.zero {B : Nat} {g : Nat → Int} {w : World} : Built B g 0 w (.slice none 0 0) (.slice none 0 0) (.slice none 0 0) :=
  by refine ⟨OwnL.nil, OwnL.nil, OwnL.nil, ?_, ?_, ?_⟩ <;> intro k h <;> cases h
/-- All that the mean's law asks of the floats. -/
theorem mean_facts {l : List Int} (hne : l ≠ []) (hok : ∀ x ∈ l, okX x) (hlen : l.length ≤ 1024) :
    ∃ m m3 r, mOf l = m ∧ mOf (l.map (- ·)) = m3 ∧ sOf l = Fl.D.word false r ∧ sOf (l.map (- ·)) = Fl.D.word false r ∧ r < 2047 * 2 ^ 52 ∧
      FloatKind.f64.format.order m m = some .eq ∧ FloatKind.f64.format.order (Fl.D.word false r) (Fl.D.word false r) = some .eq ∧ FloatKind.f64.format.order m3 (Op.negFloat .f64 m) = some .eq ∧
      (FloatKind.f64.format.order m (floatOfInt .f64 (loF l l.length)) = some .gt ∨ FloatKind.f64.format.order m (floatOfInt .f64 (loF l l.length)) = some .eq) ∧
      (FloatKind.f64.format.order m (floatOfInt .f64 (hiF l l.length)) = some .lt ∨ FloatKind.f64.format.order m (floatOfInt .f64 (hiF l l.length)) = some .eq) ∧
      ((FloatKind.f64.format.order (Fl.D.word false r) 0 = some .eq ∧ loF l l.length = hiF l l.length) ∨ (FloatKind.f64.format.order (Fl.D.word false r) 0 = some .gt ∧ ¬ loF l l.length = hiF l l.length)) := by
  obtain ⟨q1, q2, q3⟩ := lo_hi hne
  have hab : ∀ x ∈ l, x.natAbs ≤ 2 ^ 20 := fun x hx => by have := hok x hx; unfold okX at this; omega
  obtain ⟨s, u, r, s', e1, e2, e3, e4, hu, hr, hsv, hlo, hhi, hiff⟩ := Fl.mean_spread hab hne hlen q1 q2 q3
  have hne' : l.map (- ·) ≠ [] := by simpa using hne
  have self : ∀ (s : Bool) (r : Nat), r < 2047 * 2 ^ 52 → FloatKind.f64.format.order (Fl.D.word s r) (Fl.D.word s r) = some .eq := fun s r h => by
    have := Fl.order_spec (s := s) (t := s) h h
    rw [Int.compare_eq_eq.2 rfl] at this
    exact this
  have ofI : ∀ x : Int, x.natAbs ≤ 2 ^ 20 → FloatKind.f64.format.order (Fl.D.word s u) (floatOfInt .f64 x) = some (compare (Fl.sv s u) (x * Fl.Un)) := fun x hx => by
    have h1 : floatOfInt .f64 x = Fl.D.word (decide (x < 0)) (Fl.ri x.natAbs) := Fl.fl_eq x
    have h2 := Fl.order_spec (s := s) (t := decide (x < 0)) hu (Fl.ri_spec (k := x.natAbs) (by omega)).1
    rw [Fl.fl_sv (by omega)] at h2
    rw [h1]; exact h2
  refine ⟨Fl.D.word s u, Fl.D.word s' u, r, by unfold mOf; rw [if_neg hne]; exact e1, by unfold mOf; rw [if_neg hne']; exact e2, by unfold sOf; rw [if_neg hne]; exact e3, by unfold sOf; rw [if_neg hne']; exact e4, hr, self s u hu, self false r hr, ?_, ?_, ?_, ?_⟩
  · have h1 : Op.negFloat .f64 (Fl.D.word s u) = Fl.D.word (!s) u := neg_word (by omega)
    have h2 := Fl.order_spec (s := s') (t := !s) hu hu
    rw [hsv, Int.compare_eq_eq.2 rfl] at h2
    rw [h1]; exact h2
  · rw [ofI _ (hab _ q1)]
    rcases Int.lt_or_eq_of_le hlo with h | h
    · left; rw [Int.compare_eq_gt.2 h]
    · right; rw [Int.compare_eq_eq.2 h.symm]
  · rw [ofI _ (hab _ q2)]
    rcases Int.lt_or_eq_of_le hhi with h | h
    · left; rw [Int.compare_eq_lt.2 h]
    · right; rw [Int.compare_eq_eq.2 h]
  · rw [ord_zero hr]
    by_cases h : r = 0
    · left
      refine ⟨?_, hiff.1 h⟩
      rw [h, Fl.V_zero]; rfl
    · right
      refine ⟨?_, fun e => h (hiff.2 e)⟩
      have h1 : 0 < Fl.V r := by
        rcases Nat.eq_zero_or_pos (Fl.V r) with h2 | h2
        · exact absurd (Nat.le_zero.1 (Fl.V_le (u := 0) (Nat.le_of_lt hr) (by rw [h2]; exact Nat.zero_le _))) h
        · exact h2
      rw [Int.compare_eq_gt.2 (by omega)]
set_option maxHeartbeats 4000000 in
set_option maxRecDepth 100000 in
theorem mean_any (a : Value) (l : List Int) (w : World) (ha : SlRep 1 9223372036854775807 RI w a l) (hwf : ∀ x ∈ l, (Lit.int .i64 x).wf = true) :
    Calls Try.prog 3 #[a] w fun e w' => e = .returned (.bool true) ∧ Fut w w' := by
  have HA := Lib.hid ha
  obtain ⟨A, ca, rfl, hl1, hl2⟩ := ha.form
  clear ha
  have HS := Lib.hid (fun (w : World) (h : SlRep 1 9223372036854775807 RI w (.slice A l.length ca) l) => small_any _ l w h (by omega))
  by_cases h0 : l.length = 0
  · go_enter Try.func3, Try.ntmps3
    go_wp2_with fail
    refine (lives25_any _).mono ?_
    rintro e w1 ⟨rfl, f1⟩
    have h0I : (l.length : Int) = 0 := by omega
    go_wp2
    go_ret
    exact ⟨rfl, f1⟩
  by_cases hs : ¬ ((∀ x ∈ l, okX x) ∧ l.length ≤ 1024)
  · rw [decide_eq_false hs] at HS
    go_enter Try.func3, Try.ntmps3
    go_wp2_with fail
    refine (lives25_any _).mono ?_
    rintro e w1 ⟨rfl, f1⟩
    have h0I : ¬ (l.length : Int) = 0 := by omega
    go_wp2_with fail
    refine (HS.out _ (HA.out.fut RI.stays f1)).mono ?_
    rintro e w2 ⟨rfl, rfl⟩
    go_wp2
    go_ret
    exact ⟨rfl, f1⟩
  replace hs := Decidable.of_not_not hs
  rw [decide_eq_true hs] at HS
  obtain ⟨hok, hlen⟩ := hs
  replace hok := Lib.hid hok
  have hwf' := Lib.hid hwf
  clear hwf
  obtain ⟨g, hg⟩ : ∃ g : Nat → Int, g = fun k => l.getD k 0 := ⟨_, rfl⟩
  have hgk : Hid (∀ k (h : k < l.length), g k = l[k]) := Lib.hid fun k h => by rw [hg]; simp [List.getD, h]
  have hl0 : l.getD 0 0 = g 0 := by rw [hg]
  replace hg := Lib.hid hg
  go_enter Try.func3, Try.ntmps3
  go_wp2_with fail
  refine (lives25_any _).mono ?_
  rintro e w1 ⟨rfl, f1⟩
  have h0I : ¬ (l.length : Int) = 0 := by omega
  go_wp2_with fail
  refine (HS.out _ (HA.out.fut RI.stays f1)).mono ?_
  rintro e w2 ⟨rfl, rfl⟩
  obtain ⟨bl, ol, rfl, x0⟩ := in_at (k := 0) (HA.out.fut RI.stays f1) (by omega)
  rw [← hgk.out 0 (by omega), Nat.add_zero] at x0
  have hbl : bl < w.heap.size := by
    obtain ⟨b9, o9, e9, x9⟩ := in_at (k := 0) HA.out (by omega)
    injection e9 with e9
    injection e9 with e9 _ _
    rw [e9]; exact lt_of_cell x9
  have F1 := Lib.hid f1
  clear f1
  have e0 : 0 < l.length := by omega
  go_wp2_with fail
  refine wp_graph 8 [.d, .d, .d, .d, .d, .d, .d, .d] (by kernel_rfl) (by kernel_rfl) (by kernel_rfl) ?_
  simp only [List.take_succ_cons, List.take_zero, List.drop_succ_cons, List.drop_zero, Exs]
  iterate 8 apply Exists.intro
  apply Run.valG (wanted_none rfl _)
  · intro w1 h1 hk
    have q1 := h1.cell x0
    have hcw := fun b o => Below.cell (p := ⟨b, o, none⟩) h1
    go_simp; rfl
  simp only [Act.put, List.setIfInBounds_toArray, List.set_cons_succ, List.set_cons_zero, List.nil_append, List.cons_append]
  apply Run.valG (wanted_none rfl _)
  · intro w1 h1 hk
    have q1 := h1.cell x0
    have hcw := fun b o => Below.cell (p := ⟨b, o, none⟩) h1
    go_simp; rfl
  simp only [Act.put, List.setIfInBounds_toArray, List.set_cons_succ, List.set_cons_zero, List.nil_append, List.cons_append]
  apply Run.valG (wanted_none rfl _)
  · intro w1 h1 hk
    have q1 := h1.cell x0
    have hcw := fun b o => Below.cell (p := ⟨b, o, none⟩) h1
    go_simp; rfl
  simp only [Act.put, List.setIfInBounds_toArray, List.set_cons_succ, List.set_cons_zero, List.nil_append, List.cons_append]
  apply Run.valG (wanted_none rfl _)
  · intro w1 h1 hk
    have q1 := h1.cell x0
    have hcw := fun b o => Below.cell (p := ⟨b, o, none⟩) h1
    go_simp; rfl
  simp only [Act.put, List.setIfInBounds_toArray, List.set_cons_succ, List.set_cons_zero, List.nil_append, List.cons_append]
  apply Run.valG (wanted_none rfl _)
  · intro w1 h1 hk
    have q1 := h1.cell x0
    have hcw := fun b o => Below.cell (p := ⟨b, o, none⟩) h1
    go_simp; rfl
  simp only [Act.put, List.setIfInBounds_toArray, List.set_cons_succ, List.set_cons_zero, List.nil_append, List.cons_append]
  apply Run.valG (wanted_none rfl _)
  · intro w1 h1 hk
    have q1 := h1.cell x0
    have hcw := fun b o => Below.cell (p := ⟨b, o, none⟩) h1
    go_simp; rfl
  simp only [Act.put, List.setIfInBounds_toArray, List.set_cons_succ, List.set_cons_zero, List.nil_append, List.cons_append]
  apply Run.valG (wanted_none rfl _)
  · intro w1 h1 hk
    have q1 := h1.cell x0
    have hcw := fun b o => Below.cell (p := ⟨b, o, none⟩) h1
    go_simp; rfl
  simp only [Act.put, List.setIfInBounds_toArray, List.set_cons_succ, List.set_cons_zero, List.nil_append, List.cons_append]
  apply Run.valG (wanted_none rfl _)
  · intro w1 h1 hk
    have q1 := h1.cell x0
    have hcw := fun b o => Below.cell (p := ⟨b, o, none⟩) h1
    go_simp; rfl
  simp only [Act.put, List.setIfInBounds_toArray, List.set_cons_succ, List.set_cons_zero, List.nil_append, List.cons_append]
  apply Run.done
  intro w2 h2 hk
  clear hk
  have F2 := Lib.hid (F1.out.trans ((Fut.drew _).trans h2))
  clear h2 x0
  go_wp2_with fail
  have hb0 : ((l.length : Int) == 0) = false := by rw [beq_eq_false_iff_ne]; omega
  rw [hb0]
  go_loopw [3, 4, 5, 6, 7, 8] (fun lo hi o1 o2 o3 i wr => ∃ k : Nat, k ≤ l.length ∧ i = .int .i64 k ∧ lo = .int .i64 (loF l k) ∧ hi = .int .i64 (hiF l k) ∧ Hid (Built w.heap.size g k wr o1 o2 o3) ∧ Hid (Fut w wr)) (fun _ _ _ _ _ i _ => l.length - (intOf i).toNat)
  case atStart => exact ⟨0, Nat.zero_le _, rfl, by show Value.int .i64 (g 0) = .int .i64 ((l.take 0).foldl min (l.getD 0 0)); rw [hl0]; rfl, by show Value.int .i64 (g 0) = .int .i64 ((l.take 0).foldl max (l.getD 0 0)); rw [hl0]; rfl, Lib.hid Built.zero, F2⟩
  case round =>
    obtain ⟨k, hk, rfl, rfl, rfl, hBu, hF⟩ := hrel
    by_cases hlt : k < l.length
    · obtain ⟨b1, o1, hA1, x1⟩ := in_at (HA.out.fut RI.stays hF.out) hlt
      injection hA1 with hA1
      injection hA1 with hb1 ho1 _
      subst hb1; subst ho1
      have hlo := loF_step hlt
      have hhi := hiF_step hlt
      have hgx := hgk.out k hlt
      have hx := hok.out _ (List.getElem_mem hlt)
      have hxw := hwf'.out _ (List.getElem_mem hlt)
      unfold okX at hx
      rw [← hgx] at x1 hlo hhi hx hxw
      obtain ⟨x, hxe⟩ : ∃ x, g k = x := ⟨_, rfl⟩
      have hgx2 := Lib.hid hxe
      rw [hxe] at x1 hlo hhi hx hxw
      clear hxe hgx
      have hxo : (nV x).ok := nV_ok _ hxw
      have hnw : (Lit.int .i64 (-x)).wf = true := by simp [Lit.wf, IntKind.min, IntKind.max, IntKind.signed, IntKind.bits]; omega
      have hnn : IntKind.i64.wrap (-x) = -x := by rw [IntKind.wrap_i64]; omega
      have hxn : (nV (-x)).ok := nV_ok _ hnw
      have hko : (nV k).ok := nV_ok _ (by simp [Lit.wf, IntKind.min, IntKind.max, IntKind.signed, IntKind.bits]; omega)
      have hltI : (k : Int) < l.length := by omega
      have e1 : (0 : Int) ≤ k ∧ (k : Int) < l.length := by omega
      have hE1 : aL (eF g) (k + 1) = aL (eF g) k ++ [⟨eB, [nV k, nV x]⟩] := by rw [aL, eF, hgx2.out]
      have hE2 : bL g (k + 1) = [⟨eB, [nV k, nV x]⟩, ⟨fB, [nV k, nV k]⟩] ++ bL g k := by rw [bL, eF, hgx2.out]; rfl
      have hE3 : aL (eF fun j => -(g j)) (k + 1) = aL (eF fun j => -(g j)) k ++ [⟨eB, [nV k, nV (-x)]⟩] := by rw [aL, eF, hgx2.out]
      have la := aL_len (eF g) k
      have lb := bL_len g k
      have lc := aL_len (eF fun j => -(g j)) k
      have hBa := Lib.hid hBu.out.oa
      have hBb := Lib.hid hBu.out.ob
      have hBc := Lib.hid hBu.out.oc
      have hab := Lib.hid hBu.out.ab
      have hac := Lib.hid hBu.out.ac
      have hbc := Lib.hid hBu.out.bc
      clear hBu
      generalize aL (eF g) k = La at *
      generalize bL g k = Lb at *
      generalize aL (eF fun j => -(g j)) k = Lc at *
      replace hE1 := Lib.hid hE1
      replace hE2 := Lib.hid hE2
      replace hE3 := Lib.hid hE3
      replace la := Lib.hid la
      replace lb := Lib.hid lb
      replace lc := Lib.hid lc
      replace hlo := Lib.hid hlo
      replace hhi := Lib.hid hhi
      have hFs := hF.out.size
      go_wp2_with fail
      refine (rnum_agg k _).mono ?_
      rintro e w3 ⟨rfl, f3⟩
      have x3 := f3.cell x1
      go_wp2_with fail
      have f4 := Fut.alloc w3 (.cells #[.int .i8 1, .int .i64 k, .string ⟨#[]⟩] tVl)
      have hbx := heap_alloc_new w3 (.cells #[.int .i8 1, .int .i64 k, .string ⟨#[]⟩] tVl)
      obtain ⟨w4, hw4⟩ : ∃ W, w3.alloc (.cells #[.int .i8 1, .int .i64 k, .string ⟨#[]⟩] tVl) = W := ⟨_, rfl⟩
      rw [hw4] at f4 hbx ⊢
      clear hw4
      have x4 := f4.cell x3
      have F34 := f3.trans f4
      have hla3 := fun q hq => (And.intro (hBa.out.block q hq).1 (Nat.lt_of_lt_of_le (hBa.out.block q hq).2 f3.size))
      have hlc3 := fun q hq => (And.intro (hBc.out.block q hq).1 (Nat.lt_of_lt_of_le (hBc.out.block q hq).2 f3.size))
      have FB4 := Lib.hid (hF.out.trans F34)
      replace hBa := Lib.hid (hBa.out.fut RGo.stays F34)
      replace hBb := Lib.hid (hBb.out.fut RGo.stays F34)
      replace hBc := Lib.hid (hBc.out.fut RGo.stays F34)
      have y0 := cell_at hbx 0 (.int .i8 1) rfl
      have y1 := cell_at hbx 1 (.int .i64 k) rfl
      have y2 := cell_at hbx 2 (.string ⟨#[]⟩) rfl
      have hs4 : w.heap.size ≤ w4.heap.size := FB4.out.size
      have hs43x : w3.heap.size < w4.heap.size := (Array.getElem?_eq_some_iff.1 hbx).1
      have hla : ∀ q, u5.ownBlock = some q → w.heap.size ≤ q ∧ q < w3.heap.size := hla3
      have hlc : ∀ q, u7.ownBlock = some q → w.heap.size ≤ q ∧ q < w3.heap.size := hlc3
      have hs43 : w3.heap.size < w4.heap.size := hs43x
      clear f3 f4 x1 x3 F34 hbx
      refine wp_graph 10 [.d, .d, .d, .d, .d, .d, .d, .r (fun v w' => OwnL 3 w.heap.size tVl RV w' v [nV k, nV x]), .r (fun v w' => ∃ u, v = .agg #[.string eB, u] ∧ OwnL 3 w.heap.size tVl RV w' u [nV k, nV x]), .r (fun v w' => SlRep 2 1 (RGo w.heap.size tVl) w' v [⟨eB, [nV k, nV x]⟩])] (by kernel_rfl) (by kernel_rfl) (by kernel_rfl) ?_
      simp only [List.take_succ_cons, List.take_zero, List.drop_succ_cons, List.drop_zero, Exs]
      iterate 7 apply Exists.intro
      apply Run.valG (wanted_none rfl _)
      · intro w1 h1 hk
        have q0 := h1.cell x4; have q1 := h1.cell y0; have q2 := h1.cell y1; have q3 := h1.cell y2; have hg := (Fut.drew _).trans h1; have hgs := hg.size
        have hcw := fun b o => Below.cell (p := ⟨b, o, none⟩) h1
        go_simp; rfl
      simp only [Act.put, List.setIfInBounds_toArray, List.set_cons_succ, List.set_cons_zero, List.nil_append, List.cons_append]
      apply Run.valG (wanted_none rfl _)
      · intro w1 h1 hk
        have q0 := h1.cell x4; have q1 := h1.cell y0; have q2 := h1.cell y1; have q3 := h1.cell y2; have hg := (Fut.drew _).trans h1; have hgs := hg.size
        have hcw := fun b o => Below.cell (p := ⟨b, o, none⟩) h1
        go_simp; rfl
      simp only [Act.put, List.setIfInBounds_toArray, List.set_cons_succ, List.set_cons_zero, List.nil_append, List.cons_append]
      apply Run.valG (wanted_none rfl _)
      · intro w1 h1 hk
        have q0 := h1.cell x4; have q1 := h1.cell y0; have q2 := h1.cell y1; have q3 := h1.cell y2; have hg := (Fut.drew _).trans h1; have hgs := hg.size
        have hcw := fun b o => Below.cell (p := ⟨b, o, none⟩) h1
        go_simp; rfl
      simp only [Act.put, List.setIfInBounds_toArray, List.set_cons_succ, List.set_cons_zero, List.nil_append, List.cons_append]
      apply Run.valG (wanted_none rfl _)
      · intro w1 h1 hk
        have q0 := h1.cell x4; have q1 := h1.cell y0; have q2 := h1.cell y1; have q3 := h1.cell y2; have hg := (Fut.drew _).trans h1; have hgs := hg.size
        have hcw := fun b o => Below.cell (p := ⟨b, o, none⟩) h1
        go_simp; rfl
      simp only [Act.put, List.setIfInBounds_toArray, List.set_cons_succ, List.set_cons_zero, List.nil_append, List.cons_append]
      apply Run.valG (wanted_none rfl _)
      · intro w1 h1 hk
        have q0 := h1.cell x4; have q1 := h1.cell y0; have q2 := h1.cell y1; have q3 := h1.cell y2; have hg := (Fut.drew _).trans h1; have hgs := hg.size
        have hcw := fun b o => Below.cell (p := ⟨b, o, none⟩) h1
        go_simp; rfl
      simp only [Act.put, List.setIfInBounds_toArray, List.set_cons_succ, List.set_cons_zero, List.nil_append, List.cons_append]
      apply Run.valG (wanted_none rfl _)
      · intro w1 h1 hk
        have q0 := h1.cell x4; have q1 := h1.cell y0; have q2 := h1.cell y1; have q3 := h1.cell y2; have hg := (Fut.drew _).trans h1; have hgs := hg.size
        have hcw := fun b o => Below.cell (p := ⟨b, o, none⟩) h1
        go_simp; rfl
      simp only [Act.put, List.setIfInBounds_toArray, List.set_cons_succ, List.set_cons_zero, List.nil_append, List.cons_append]
      apply Run.call (wanted_none rfl _) (fun _ _ => by go_simp; exact ⟨rfl, rfl⟩)
      · intro w1 h1 hk
        have q0 := h1.cell x4; have q1 := h1.cell y0; have q2 := h1.cell y1; have q3 := h1.cell y2; have hg := (Fut.drew _).trans h1; have hgs := hg.size
        exact rnum_agg x _
      simp only [Act.put, List.setIfInBounds_toArray, List.set_cons_succ, List.set_cons_zero, List.nil_append, List.cons_append]
      apply Run.valR (wanted_none rfl _) (by intro v w w' hf hs; exact hs.fut RV.stays hf)
      · intro w1 h1 hk
        have q0 := h1.cell x4; have q1 := h1.cell y0; have q2 := h1.cell y1; have q3 := h1.cell y2; have hg := (Fut.drew _).trans h1; have hgs := hg.size
        go_simp; exact ⟨_, _, ⟨rfl, rfl⟩, Fut.alloc _ _, own_vals2 w1 (nV k) (nV x) hko hxo (by omega)⟩
      intro v7
      simp only [Act.put, List.setIfInBounds_toArray, List.set_cons_succ, List.set_cons_zero, List.nil_append, List.cons_append]
      apply Run.valR (wanted_none rfl _) (by intro v w w' hf hs; exact (by obtain ⟨u, h8, h9⟩ := hs; exact ⟨u, h8, h9.fut RV.stays hf⟩))
      · intro w1 h1 hk
        have f7 := Facts.get hk 0 rfl (by kernel_rfl)
        have q0 := h1.cell x4; have q1 := h1.cell y0; have q2 := h1.cell y1; have q3 := h1.cell y2; have hg := (Fut.drew _).trans h1; have hgs := hg.size
        obtain ⟨A9, c9, rfl, _, _⟩ := f7.rep.form; go_simp; exact ⟨_, _, ⟨rfl, rfl⟩, Fut.refl _, _, rfl, f7⟩
      intro v8
      simp only [Act.put, List.setIfInBounds_toArray, List.set_cons_succ, List.set_cons_zero, List.nil_append, List.cons_append]
      apply Run.valR (wanted_none rfl _) (by intro v w w' hf hs; exact hs.fut RGo.stays hf)
      · intro w1 h1 hk
        have f8 := Facts.get hk 1 rfl (by kernel_rfl)
        have q0 := h1.cell x4; have q1 := h1.cell y0; have q2 := h1.cell y1; have q3 := h1.cell y2; have hg := (Fut.drew _).trans h1; have hgs := hg.size
        obtain ⟨u, rfl, hu⟩ := f8; obtain ⟨A9, c9, rfl, _, _⟩ := hu.rep.form; go_simp; exact ⟨_, _, ⟨rfl, rfl⟩, Fut.alloc _ _, fac_one (f := ⟨eB, [nV k, nV x]⟩) tFc (show eB.size ≤ 140737488351232 by decide) hu⟩
      intro v9
      simp only [Act.put, List.setIfInBounds_toArray, List.set_cons_succ, List.set_cons_zero, List.nil_append, List.cons_append]
      apply Run.done
      intro w5 h5 hk
      obtain ⟨f7, f8, f9, _⟩ := hk
      have F5 := (Fut.drew _).trans h5
      have A5 := hBa.out.fut RGo.stays F5
      have B5 := hBb.out.fut RGo.stays F5
      have C5 := hBc.out.fut RGo.stays F5
      have x5 := F5.cell x4
      have u0 := F5.cell y0
      have u1 := F5.cell y1
      have u2 := F5.cell y2
      have U9 := Lib.hid f9
      have hs5 := F5.size
      clear f7 f8 f9 h5 x4 y0 y1 y2 hBa hBb hBc
      go_wp2_with (first | (at_builtin; refine wpList_append_LB (R := RGo w.heap.size tVl) (B := w.heap.size) (M := 1) (xs := La) (ys := [⟨eB, [nV k, nV x]⟩]) (e := tFc) (by go_simp) _ _ 25 rfl Try.underlying25 (.agg #[.string ⟨#[]⟩, .slice none 0 0]) 40 infoFc rfl (by decide) RGo.one (RGo.keeps tne) rfl rfl A5 U9.out ?la ?ma ?ba ?ka))
      case la => have := la.out; simp [maxLen]; omega
      case ma => have := la.out; first | omega | (simp; omega)
      case ba => omega
      case ka =>
      intro u5' w6 oa' ga' sa'
      have OA : Only (fun q => u5.ownBlock = some q) w5 w6 := Only.grown ga' fun q hq => hq
      have b6 := Lib.hid (own_other A5 B5 hab.out ga')
      have c6 := Lib.hid (own_other A5 C5 hac.out ga')
      have ab6 := Lib.hid (ap_new sa' (fun q hq => (B5.block q hq).2) hab.out)
      have ac6 := Lib.hid (ap_new sa' (fun q hq => (C5.block q hq).2) hac.out)
      have x6 := OA.cell x5 (fun h => by have := (hla bl h).1; omega)
      have y0 := OA.cell u0 (fun h => by have := (hla w3.heap.size h).2; omega)
      have y1 := OA.cell u1 (fun h => by have := (hla w3.heap.size h).2; omega)
      have y2 := OA.cell u2 (fun h => by have := (hla w3.heap.size h).2; omega)
      have F6 := Lib.hid (Fut.grown (FB4.out.trans F5) ga' (fun q hq => (hla q hq).1))
      have a6 := Lib.hid oa'
      have hs6 := OA.size
      clear oa' ga' sa' OA A5 B5 C5 x5 u0 u1 u2 F5 U9 hab hac
      go_wp2_with fail
      refine wp_graph 14 [.d, .d, .d, .d, .d, .d, .r (fun v w' => OwnL 3 w.heap.size tVl RV w' v [nV k, nV x]), .r (fun v w' => ∃ u, v = .agg #[.string eB, u] ∧ OwnL 3 w.heap.size tVl RV w' u [nV k, nV x]), .d, .d, .r (fun v w' => OwnL 3 w.heap.size tVl RV w' v [nV k, nV k]), .r (fun v w' => ∃ u, v = .agg #[.string fB, u] ∧ OwnL 3 w.heap.size tVl RV w' u [nV k, nV k]), .r (fun v w' => OwnFs w.heap.size w' v [⟨eB, [nV k, nV x]⟩, ⟨fB, [nV k, nV k]⟩] ∧ ∀ q, v.ownBlock = some q → w6.heap.size ≤ q), .d] (by kernel_rfl) (by kernel_rfl) (by kernel_rfl) ?_
      simp only [List.take_succ_cons, List.take_zero, List.drop_succ_cons, List.drop_zero, Exs]
      iterate 9 apply Exists.intro
      apply Run.valG (wanted_none rfl _)
      · intro w1 h1 hk
        have q0 := h1.cell x6; have q1 := h1.cell y0; have q2 := h1.cell y1; have q3 := h1.cell y2; have hg := (Fut.drew _).trans h1; have hgs := hg.size
        have hcw := fun b o => Below.cell (p := ⟨b, o, none⟩) h1
        go_simp; rfl
      simp only [Act.put, List.setIfInBounds_toArray, List.set_cons_succ, List.set_cons_zero, List.nil_append, List.cons_append]
      apply Run.valG (wanted_none rfl _)
      · intro w1 h1 hk
        have q0 := h1.cell x6; have q1 := h1.cell y0; have q2 := h1.cell y1; have q3 := h1.cell y2; have hg := (Fut.drew _).trans h1; have hgs := hg.size
        have hcw := fun b o => Below.cell (p := ⟨b, o, none⟩) h1
        go_simp; rfl
      simp only [Act.put, List.setIfInBounds_toArray, List.set_cons_succ, List.set_cons_zero, List.nil_append, List.cons_append]
      apply Run.valG (wanted_none rfl _)
      · intro w1 h1 hk
        have q0 := h1.cell x6; have q1 := h1.cell y0; have q2 := h1.cell y1; have q3 := h1.cell y2; have hg := (Fut.drew _).trans h1; have hgs := hg.size
        have hcw := fun b o => Below.cell (p := ⟨b, o, none⟩) h1
        go_simp; rfl
      simp only [Act.put, List.setIfInBounds_toArray, List.set_cons_succ, List.set_cons_zero, List.nil_append, List.cons_append]
      apply Run.valG (wanted_none rfl _)
      · intro w1 h1 hk
        have q0 := h1.cell x6; have q1 := h1.cell y0; have q2 := h1.cell y1; have q3 := h1.cell y2; have hg := (Fut.drew _).trans h1; have hgs := hg.size
        have hcw := fun b o => Below.cell (p := ⟨b, o, none⟩) h1
        go_simp; rfl
      simp only [Act.put, List.setIfInBounds_toArray, List.set_cons_succ, List.set_cons_zero, List.nil_append, List.cons_append]
      apply Run.valG (wanted_none rfl _)
      · intro w1 h1 hk
        have q0 := h1.cell x6; have q1 := h1.cell y0; have q2 := h1.cell y1; have q3 := h1.cell y2; have hg := (Fut.drew _).trans h1; have hgs := hg.size
        have hcw := fun b o => Below.cell (p := ⟨b, o, none⟩) h1
        go_simp; rfl
      simp only [Act.put, List.setIfInBounds_toArray, List.set_cons_succ, List.set_cons_zero, List.nil_append, List.cons_append]
      apply Run.call (wanted_none rfl _) (fun _ _ => by go_simp; exact ⟨rfl, rfl⟩)
      · intro w1 h1 hk
        have q0 := h1.cell x6; have q1 := h1.cell y0; have q2 := h1.cell y1; have q3 := h1.cell y2; have hg := (Fut.drew _).trans h1; have hgs := hg.size
        exact rnum_agg x _
      simp only [Act.put, List.setIfInBounds_toArray, List.set_cons_succ, List.set_cons_zero, List.nil_append, List.cons_append]
      apply Run.valR (wanted_none rfl _) (by intro v w w' hf hs; exact hs.fut RV.stays hf)
      · intro w1 h1 hk
        have q0 := h1.cell x6; have q1 := h1.cell y0; have q2 := h1.cell y1; have q3 := h1.cell y2; have hg := (Fut.drew _).trans h1; have hgs := hg.size
        go_simp; exact ⟨_, _, ⟨rfl, rfl⟩, Fut.alloc _ _, own_vals2 w1 (nV k) (nV x) hko hxo (by omega)⟩
      intro v6
      simp only [Act.put, List.setIfInBounds_toArray, List.set_cons_succ, List.set_cons_zero, List.nil_append, List.cons_append]
      apply Run.valR (wanted_none rfl _) (by intro v w w' hf hs; exact (by obtain ⟨u, h8, h9⟩ := hs; exact ⟨u, h8, h9.fut RV.stays hf⟩))
      · intro w1 h1 hk
        have f6 := Facts.get hk 0 rfl (by kernel_rfl)
        have q0 := h1.cell x6; have q1 := h1.cell y0; have q2 := h1.cell y1; have q3 := h1.cell y2; have hg := (Fut.drew _).trans h1; have hgs := hg.size
        obtain ⟨A9, c9, rfl, _, _⟩ := f6.rep.form; go_simp; exact ⟨_, _, ⟨rfl, rfl⟩, Fut.refl _, _, rfl, f6⟩
      intro v7
      simp only [Act.put, List.setIfInBounds_toArray, List.set_cons_succ, List.set_cons_zero, List.nil_append, List.cons_append]
      apply Run.valG (wanted_none rfl _)
      · intro w1 h1 hk
        have q0 := h1.cell x6; have q1 := h1.cell y0; have q2 := h1.cell y1; have q3 := h1.cell y2; have hg := (Fut.drew _).trans h1; have hgs := hg.size
        have hcw := fun b o => Below.cell (p := ⟨b, o, none⟩) h1
        go_simp; rfl
      simp only [Act.put, List.setIfInBounds_toArray, List.set_cons_succ, List.set_cons_zero, List.nil_append, List.cons_append]
      apply Run.valG (wanted_none rfl _)
      · intro w1 h1 hk
        have q0 := h1.cell x6; have q1 := h1.cell y0; have q2 := h1.cell y1; have q3 := h1.cell y2; have hg := (Fut.drew _).trans h1; have hgs := hg.size
        have hcw := fun b o => Below.cell (p := ⟨b, o, none⟩) h1
        go_simp; rfl
      simp only [Act.put, List.setIfInBounds_toArray, List.set_cons_succ, List.set_cons_zero, List.nil_append, List.cons_append]
      apply Run.valR (wanted_none rfl _) (by intro v w w' hf hs; exact hs.fut RV.stays hf)
      · intro w1 h1 hk
        have q0 := h1.cell x6; have q1 := h1.cell y0; have q2 := h1.cell y1; have q3 := h1.cell y2; have hg := (Fut.drew _).trans h1; have hgs := hg.size
        go_simp; exact ⟨_, _, ⟨rfl, rfl⟩, Fut.alloc _ _, own_vals2 w1 (nV k) (nV k) hko hko (by omega)⟩
      intro v10
      simp only [Act.put, List.setIfInBounds_toArray, List.set_cons_succ, List.set_cons_zero, List.nil_append, List.cons_append]
      apply Run.valR (wanted_none rfl _) (by intro v w w' hf hs; exact (by obtain ⟨u, h8, h9⟩ := hs; exact ⟨u, h8, h9.fut RV.stays hf⟩))
      · intro w1 h1 hk
        have f10 := Facts.get hk 2 rfl (by kernel_rfl)
        have q0 := h1.cell x6; have q1 := h1.cell y0; have q2 := h1.cell y1; have q3 := h1.cell y2; have hg := (Fut.drew _).trans h1; have hgs := hg.size
        obtain ⟨A9, c9, rfl, _, _⟩ := f10.rep.form; go_simp; exact ⟨_, _, ⟨rfl, rfl⟩, Fut.refl _, _, rfl, f10⟩
      intro v11
      simp only [Act.put, List.setIfInBounds_toArray, List.set_cons_succ, List.set_cons_zero, List.nil_append, List.cons_append]
      apply Run.valR (wanted_none rfl _) (by intro v w w' hf hs; exact (by exact ⟨hs.1.fut RGo.stays hf, hs.2⟩))
      · intro w1 h1 hk
        have f7 := Facts.get hk 1 rfl (by kernel_rfl)
        have f11 := Facts.get hk 3 rfl (by kernel_rfl)
        have q0 := h1.cell x6; have q1 := h1.cell y0; have q2 := h1.cell y1; have q3 := h1.cell y2; have hg := (Fut.drew _).trans h1; have hgs := hg.size
        obtain ⟨u, rfl, hu⟩ := f7; obtain ⟨u', rfl, hu'⟩ := f11; obtain ⟨A9, c9, rfl, _, _⟩ := hu.rep.form; obtain ⟨A8, c8, rfl, _, _⟩ := hu'.rep.form; go_simp; exact ⟨_, _, ⟨rfl, rfl⟩, Fut.alloc _ _, own_facs2 w1 ⟨eB, [nV k, nV x]⟩ ⟨fB, [nV k, nV k]⟩ _ _ hu hu' (show eB.size ≤ 140737488351232 by decide) (show fB.size ≤ 140737488351232 by decide) (by omega), fun q hq => Nat.le_trans hgs (Nat.le_of_eq (by simpa [Value.ownBlock] using hq))⟩
      intro v12
      simp only [Act.put, List.setIfInBounds_toArray, List.set_cons_succ, List.set_cons_zero, List.nil_append, List.cons_append]
      apply Run.valG (wanted_none rfl _)
      · intro w1 h1 hk
        have q0 := h1.cell x6; have q1 := h1.cell y0; have q2 := h1.cell y1; have q3 := h1.cell y2; have hg := (Fut.drew _).trans h1; have hgs := hg.size
        have hcw := fun b o => Below.cell (p := ⟨b, o, none⟩) h1
        go_simp; rfl
      simp only [Act.put, List.setIfInBounds_toArray, List.set_cons_succ, List.set_cons_zero, List.nil_append, List.cons_append]
      apply Run.done
      intro w7 h7 hk
      obtain ⟨f6, f7, f10, f11, f12, _⟩ := hk
      have F7 := (Fut.drew _).trans h7
      have A7 := a6.out.fut RGo.stays F7
      have B7 := b6.out.fut RGo.stays F7
      have C7 := c6.out.fut RGo.stays F7
      have x7 := F7.cell x6
      have u0 := F7.cell y0
      have u1 := F7.cell y1
      have u2 := F7.cell y2
      obtain ⟨L12, hn12⟩ := f12
      have hs7 := F7.size
      have a12 : Ap v12 u5' := fun q hq hv => by have := hn12 q hq; have := (a6.out.block q hv).2; omega
      have c12 : Ap v12 u7 := fun q hq hv => by have := hn12 q hq; have := (c6.out.block q hv).2; omega
      have L12' := Lib.hid L12
      replace hn12 := Lib.hid hn12
      clear f6 f7 f10 f11 h7 x6 y0 y1 y2 L12
      go_wp2_with (first | (at_builtin; refine wpList_append_LB (R := RGo w.heap.size tVl) (B := w.heap.size) (M := maxLen) (xs := [⟨eB, [nV k, nV x]⟩, ⟨fB, [nV k, nV k]⟩]) (ys := Lb) (e := tFc) (by go_simp) _ _ 25 rfl Try.underlying25 (.agg #[.string ⟨#[]⟩, .slice none 0 0]) 40 infoFc rfl (by decide) RGo.one (RGo.keeps tne) rfl rfl L12'.out B7.rep ?lb ?mb ?bb ?kb))
      case lb => have := lb.out; simp [maxLen]; omega
      case mb => have := lb.out; first | omega | (simp; omega)
      case bb => omega
      case kb =>
      intro vb' w8 ob' gb' sb'
      have OB : Only (fun q => v12.ownBlock = some q) w7 w8 := Only.grown gb' fun q hq => hq
      have a8 := Lib.hid (own_other L12'.out A7 a12 gb')
      have c8 := Lib.hid (own_other L12'.out C7 c12 gb')
      have ab8 := Lib.hid (ap_new sb' (fun q hq => (A7.block q hq).2) a12).symm
      have bc8 := Lib.hid (ap_new sb' (fun q hq => (C7.block q hq).2) c12)
      have x8 := OB.cell x7 (fun h => by have := hn12.out bl h; omega)
      have y0 := OB.cell u0 (fun h => by have := hn12.out w3.heap.size h; omega)
      have y1 := OB.cell u1 (fun h => by have := hn12.out w3.heap.size h; omega)
      have y2 := OB.cell u2 (fun h => by have := hn12.out w3.heap.size h; omega)
      have F8 := Lib.hid (Fut.grown (F6.out.trans F7) gb' (fun q hq => by have := hn12.out q hq; omega))
      have b8 := Lib.hid ob'
      have hs8 := OB.size
      clear ob' gb' sb' OB A7 B7 C7 x7 u0 u1 u2 F7 hn12 L12' a12 c12 a6 b6 c6 F6 ab6
      go_wp2_with fail
      refine wp_graph 11 [.d, .d, .d, .d, .d, .d, .d, .d, .r (fun v w' => OwnL 3 w.heap.size tVl RV w' v [nV k, nV (-x)]), .r (fun v w' => ∃ u, v = .agg #[.string eB, u] ∧ OwnL 3 w.heap.size tVl RV w' u [nV k, nV (-x)]), .r (fun v w' => SlRep 2 1 (RGo w.heap.size tVl) w' v [⟨eB, [nV k, nV (-x)]⟩])] (by kernel_rfl) (by kernel_rfl) (by kernel_rfl) ?_
      simp only [List.take_succ_cons, List.take_zero, List.drop_succ_cons, List.drop_zero, Exs]
      iterate 8 apply Exists.intro
      apply Run.valG (wanted_none rfl _)
      · intro w1 h1 hk
        have q0 := h1.cell x8; have q1 := h1.cell y0; have q2 := h1.cell y1; have q3 := h1.cell y2; have hg := (Fut.drew _).trans h1; have hgs := hg.size
        have hcw := fun b o => Below.cell (p := ⟨b, o, none⟩) h1
        go_simp; rfl
      simp only [Act.put, List.setIfInBounds_toArray, List.set_cons_succ, List.set_cons_zero, List.nil_append, List.cons_append]
      apply Run.valG (wanted_none rfl _)
      · intro w1 h1 hk
        have q0 := h1.cell x8; have q1 := h1.cell y0; have q2 := h1.cell y1; have q3 := h1.cell y2; have hg := (Fut.drew _).trans h1; have hgs := hg.size
        have hcw := fun b o => Below.cell (p := ⟨b, o, none⟩) h1
        go_simp; rfl
      simp only [Act.put, List.setIfInBounds_toArray, List.set_cons_succ, List.set_cons_zero, List.nil_append, List.cons_append]
      apply Run.valG (wanted_none rfl _)
      · intro w1 h1 hk
        have q0 := h1.cell x8; have q1 := h1.cell y0; have q2 := h1.cell y1; have q3 := h1.cell y2; have hg := (Fut.drew _).trans h1; have hgs := hg.size
        have hcw := fun b o => Below.cell (p := ⟨b, o, none⟩) h1
        go_simp; rfl
      simp only [Act.put, List.setIfInBounds_toArray, List.set_cons_succ, List.set_cons_zero, List.nil_append, List.cons_append]
      apply Run.valG (wanted_none rfl _)
      · intro w1 h1 hk
        have q0 := h1.cell x8; have q1 := h1.cell y0; have q2 := h1.cell y1; have q3 := h1.cell y2; have hg := (Fut.drew _).trans h1; have hgs := hg.size
        have hcw := fun b o => Below.cell (p := ⟨b, o, none⟩) h1
        go_simp; rfl
      simp only [Act.put, List.setIfInBounds_toArray, List.set_cons_succ, List.set_cons_zero, List.nil_append, List.cons_append]
      apply Run.valG (wanted_none rfl _)
      · intro w1 h1 hk
        have q0 := h1.cell x8; have q1 := h1.cell y0; have q2 := h1.cell y1; have q3 := h1.cell y2; have hg := (Fut.drew _).trans h1; have hgs := hg.size
        have hcw := fun b o => Below.cell (p := ⟨b, o, none⟩) h1
        go_simp; rfl
      simp only [Act.put, List.setIfInBounds_toArray, List.set_cons_succ, List.set_cons_zero, List.nil_append, List.cons_append]
      apply Run.valG (wanted_none rfl _)
      · intro w1 h1 hk
        have q0 := h1.cell x8; have q1 := h1.cell y0; have q2 := h1.cell y1; have q3 := h1.cell y2; have hg := (Fut.drew _).trans h1; have hgs := hg.size
        have hcw := fun b o => Below.cell (p := ⟨b, o, none⟩) h1
        go_simp; rfl
      simp only [Act.put, List.setIfInBounds_toArray, List.set_cons_succ, List.set_cons_zero, List.nil_append, List.cons_append]
      apply Run.valG (wanted_none rfl _)
      · intro w1 h1 hk
        have q0 := h1.cell x8; have q1 := h1.cell y0; have q2 := h1.cell y1; have q3 := h1.cell y2; have hg := (Fut.drew _).trans h1; have hgs := hg.size
        have hcw := fun b o => Below.cell (p := ⟨b, o, none⟩) h1
        go_simp; rfl
      simp only [Act.put, List.setIfInBounds_toArray, List.set_cons_succ, List.set_cons_zero, List.nil_append, List.cons_append]
      apply Run.call (wanted_none rfl _) (fun _ _ => by go_simp; exact ⟨rfl, rfl⟩)
      · intro w1 h1 hk
        have q0 := h1.cell x8; have q1 := h1.cell y0; have q2 := h1.cell y1; have q3 := h1.cell y2; have hg := (Fut.drew _).trans h1; have hgs := hg.size
        exact rnum_agg (-x) _
      simp only [Act.put, List.setIfInBounds_toArray, List.set_cons_succ, List.set_cons_zero, List.nil_append, List.cons_append]
      apply Run.valR (wanted_none rfl _) (by intro v w w' hf hs; exact hs.fut RV.stays hf)
      · intro w1 h1 hk
        have q0 := h1.cell x8; have q1 := h1.cell y0; have q2 := h1.cell y1; have q3 := h1.cell y2; have hg := (Fut.drew _).trans h1; have hgs := hg.size
        go_simp; exact ⟨_, _, ⟨rfl, rfl⟩, Fut.alloc _ _, own_vals2 w1 (nV k) (nV (-x)) hko hxn (by omega)⟩
      intro v8
      simp only [Act.put, List.setIfInBounds_toArray, List.set_cons_succ, List.set_cons_zero, List.nil_append, List.cons_append]
      apply Run.valR (wanted_none rfl _) (by intro v w w' hf hs; exact (by obtain ⟨u, h8, h9⟩ := hs; exact ⟨u, h8, h9.fut RV.stays hf⟩))
      · intro w1 h1 hk
        have f8 := Facts.get hk 0 rfl (by kernel_rfl)
        have q0 := h1.cell x8; have q1 := h1.cell y0; have q2 := h1.cell y1; have q3 := h1.cell y2; have hg := (Fut.drew _).trans h1; have hgs := hg.size
        obtain ⟨A9, c9, rfl, _, _⟩ := f8.rep.form; go_simp; exact ⟨_, _, ⟨rfl, rfl⟩, Fut.refl _, _, rfl, f8⟩
      intro v9
      simp only [Act.put, List.setIfInBounds_toArray, List.set_cons_succ, List.set_cons_zero, List.nil_append, List.cons_append]
      apply Run.valR (wanted_none rfl _) (by intro v w w' hf hs; exact hs.fut RGo.stays hf)
      · intro w1 h1 hk
        have f9 := Facts.get hk 1 rfl (by kernel_rfl)
        have q0 := h1.cell x8; have q1 := h1.cell y0; have q2 := h1.cell y1; have q3 := h1.cell y2; have hg := (Fut.drew _).trans h1; have hgs := hg.size
        obtain ⟨u, rfl, hu⟩ := f9; obtain ⟨A9, c9, rfl, _, _⟩ := hu.rep.form; go_simp; exact ⟨_, _, ⟨rfl, rfl⟩, Fut.alloc _ _, fac_one (f := ⟨eB, [nV k, nV (-x)]⟩) tFc (show eB.size ≤ 140737488351232 by decide) hu⟩
      intro v10
      simp only [Act.put, List.setIfInBounds_toArray, List.set_cons_succ, List.set_cons_zero, List.nil_append, List.cons_append]
      apply Run.done
      intro w9 h9 hk
      obtain ⟨f8, f9, f10, _⟩ := hk
      have F9 := (Fut.drew _).trans h9
      have A9 := a8.out.fut RGo.stays F9
      have B9 := b8.out.fut RGo.stays F9
      have C9 := c8.out.fut RGo.stays F9
      have U9 := Lib.hid f10
      have hs9 := F9.size
      clear f8 f9 f10 h9 x8 y0 y1 y2 a8 b8 c8
      go_wp2_with (first | (at_builtin; refine wpList_append_LB (R := RGo w.heap.size tVl) (B := w.heap.size) (M := 1) (xs := Lc) (ys := [⟨eB, [nV k, nV (-x)]⟩]) (e := tFc) (by go_simp) _ _ 25 rfl Try.underlying25 (.agg #[.string ⟨#[]⟩, .slice none 0 0]) 40 infoFc rfl (by decide) RGo.one (RGo.keeps tne) rfl rfl C9 U9.out ?lc ?mc ?bc ?kc))
      case lc => have := lc.out; simp [maxLen]; omega
      case mc => have := lc.out; first | omega | (simp; omega)
      case bc => omega
      case kc =>
      intro u7' w10 oc' gc' sc'
      have a10 := own_other C9 A9 ac6.out.symm gc'
      have b10 := own_other C9 B9 bc8.out.symm gc'
      have ac10 := (ap_new sc' (fun q hq => (A9.block q hq).2) ac6.out.symm).symm
      have bc10 := (ap_new sc' (fun q hq => (B9.block q hq).2) bc8.out.symm).symm
      have F10 := Lib.hid (Fut.grown (F8.out.trans F9) gc' (fun q hq => (hlc q hq).1))
      have BB : Hid (Built w.heap.size g (k + 1) w10 u5' vb' u7') := Lib.hid ⟨by rw [hE1.out]; exact a10, by rw [hE2.out]; exact b10, by rw [hE3.out]; exact oc', ab8.out, ac10, bc10⟩
      clear oc' gc' sc' a10 b10 ac10 bc10 A9 B9 C9 F9 U9
      go_wp2
      go_roundw
      case rel => first | exact ⟨k + 1, by omega, by go_num, by rw [hlo.out], by rw [hhi.out], BB, F10⟩ | exact ⟨k + 1, by omega, by go_num, by rw [hlo.out], by rw [hhi.out], _, rfl, _, rfl, _, rfl, BB, F10⟩ | fail "REL"
      case measure => simp [intOf] <;> omega
    · obtain rfl : k = l.length := by omega
      have hne : l ≠ [] := fun e => h0 (by rw [e]; rfl)
      have hgl : (List.range l.length).map g = l := by rw [hg.out]; exact range_get l
      have hgn : (List.range l.length).map (fun j => -(g j)) = l.map (- ·) := by
        have h9 := congrArg (List.map (fun x : Int => -x)) hgl
        rw [List.map_map] at h9
        exact h9
      have na : nums (sortU cmpF (aL (eF g) l.length)) eB 1 = l := by rw [sort_a, nums_a, hgl]
      have nb : nums (sortU cmpF (bL g l.length)) eB 1 = l := by rw [nums_b, hgl]
      have nc : nums (sortU cmpF (aL (eF fun j => -(g j)) l.length)) eB 1 = l.map (- ·) := by rw [sort_a, nums_a, hgn]
      have la := aL_len (eF g) l.length
      have lb := bL_len g l.length
      have lc := aL_len (eF fun j => -(g j)) l.length
      have wa : ∀ t ∈ aL (eF g) l.length, t.a.length ≤ 4398046511104 := fun t ht => by obtain ⟨j, _, rfl⟩ := (aL_mem _ _ t).1 ht; simp [eF]
      have wc : ∀ t ∈ aL (eF fun j => -(g j)) l.length, t.a.length ≤ 4398046511104 := fun t ht => by obtain ⟨j, _, rfl⟩ := (aL_mem _ _ t).1 ht; simp [eF]
      have wb : ∀ t ∈ bL g l.length, t.a.length ≤ 4398046511104 := fun t ht => by
        rcases List.mem_append.1 ((bL_mem g _ t).1 ht) with h | h
        · exact wa t h
        · obtain ⟨j, _, rfl⟩ := (aL_mem _ _ t).1 h; simp [fF]
      obtain ⟨m, m3, r, hm, hm3, hs, hs3, hr, o1, o2, o3, o5, o6, o7⟩ := mean_facts hne hok.out hlen
      have hmn : (l.map (- ·)).length = l.length := List.length_map _
      have CA := Lib.hid (fun W (hW : Fut wr W) => share_any _ (aL (eF g) l.length) eB 1 W ((OwnG.facs hBu.out.oa).fut RG.stays hW) (by omega) wa)
      have CB := Lib.hid (fun W (hW : Fut wr W) => share_any _ (bL g l.length) eB 1 W ((OwnG.facs hBu.out.ob).fut RG.stays hW) (by omega) wb)
      have CC := Lib.hid (fun W (hW : Fut wr W) => share_any _ (aL (eF fun j => -(g j)) l.length) eB 1 W ((OwnG.facs hBu.out.oc).fut RG.stays hW) (by omega) wc)
      rw [na, hm, hs] at CA
      rw [nb, hm, hs] at CB
      rw [nc, hm3, hs3, hmn] at CC
      have HGd := Lib.hid (fun W => good_any hr W)
      have hun : Op.unary .neg (.float .f64 m) = pure (.float .f64 (Op.negFloat .f64 m)) := rfl
      generalize Op.negFloat .f64 m = nm at *
      generalize Fl.D.word false r = sp at *
      generalize loF l l.length = lo at *
      generalize hiF l l.length = hi at *
      clear na nb nc la lb lc wa wb wc hm hm3 hs hs3 hgl hgn hmn
      go_wp2_with fail
      refine (CA.out _ (Fut.refl _)).mono ?_
      rintro e w3 ⟨rfl, f3⟩
      have F3 := Lib.hid f3
      clear f3
      go_wp2_with fail
      refine (CB.out _ F3.out).mono ?_
      rintro e w4 ⟨rfl, f4⟩
      have F4 := Lib.hid (F3.out.trans f4)
      clear f4
      go_wp2_with fail
      refine (CC.out _ F4.out).mono ?_
      rintro e w5 ⟨rfl, f5⟩
      have F5 := Lib.hid (hF.out.trans (F4.out.trans f5))
      clear f5
      go_wp2_with fail
      refine (HGd.out _).mono ?_
      rintro e w6 ⟨rfl, rfl⟩
      rcases o5 with o5 | o5 <;> rcases o6 with o6 | o6 <;> rcases o7 with ⟨o7, o8⟩ | ⟨o7, o8⟩
      all_goals first
        | (exfalso; subst o8; rw [o5] at o6; cases o6; done)
        | (go_wp2; go_ret; exact ⟨by first | rfl | simp [o8], F5.out⟩)
end Go.Proofs.Ytkdnplebgmmclaa
