/- RelOwn, RelReads, RelTurns -/
import Derived.Test.YtijdichfaofjaaaGreatDoorRows
import Derived.Deep.CondSized
import Derived.JoinedCond
import Derived.Test.YtijdichfaofjaaaGreatDoorC17
/- RelationOwn, walked. -/
namespace Go.Proofs.YtijdichfaofjaaaGreatDoor
open Go.RowKit Go.WideMaps Go.Shelf
set_option linter.unusedSimpArgs false
set_option linter.unusedVariables false
attribute [local go_sem] Oper.semAt_some

theorem sorted_unique {xs ys zs : List Rw} (h1 : ys.Perm xs) (h2 : zs.Perm xs) (s1 : Sorted cmpR ys) (s2 : Sorted cmpR zs) : ys = zs :=
  List.Perm.eq_of_pairwise (le := fun x y => ¬ cmpR y x < 0) (fun a b _ _ hab hba => (ordR.zero a b).1 (by
    have := ordR.swap a b
    omega)) s1 s2 (h1.trans h2.symm)
theorem OwnL.own_some {α : Type} {sz B : Nat} {e : TypeId} {R : World → List Value → α → Prop} {w : World} {v : Value} {xs : List α} (h : OwnL sz B e R w v xs) (hne : xs ≠ []) : ∃ k, v.ownBlock = some k := by
  obtain ⟨css, h1, h2, h3, h4⟩ := h
  rcases h4 with ⟨_, h5⟩ | ⟨g, cap, cur, rfl, _⟩
  · exact absurd (List.length_eq_zero_iff.1 h5) hne
  · exact ⟨g, rfl⟩
theorem sel_nil {ar m : Nat} {x : Rw} : selL ar m x [] = [] := rfl

theorem snoc_len {α : Type} {f : Nat → List α} {n N : Nat} {ys : List α} (h : ∀ i, (f i).length + 70 ≤ N) (hy : ys.length + 70 ≤ N) : ∀ i, (snocF f n ys i).length + 70 ≤ N := fun i => by
  unfold snocF; split
  · exact hy
  · exact h i
set_option maxHeartbeats 8000000 in
set_option maxRecDepth 100000 in
theorem own_walk (v : Value) (l : List Tn) (m : Nat) (hm : m < 2 ^ 32) (x : Rw) (hx : Rw.ok x) (w : World) (M : Nat) (h : SlRep 25 M RTn w v l) (hl : l.length ≤ 1407374883512) :
    Calls Tryz.prog 3 #[v, .int .u32 m, Rw.val x] w fun e w' => e = .returned (.bool true) ∧ Fut w w' := by
  have H := Lib.hid h
  have X := Lib.hid hx
  obtain ⟨A, cap, rfl, hcl, hcm⟩ := h.form
  clear h
  unfold Rw.val
  go_enter Tryz.func3, Tryz.ntmps3
  go_wp2_with fail
  have hrow := RowAt.new w 27 X.out
  have F2 := Fut.alloc w (.cells (Rw.cells x).toArray 27)
  obtain ⟨w2, hW⟩ : ∃ W, w.alloc (.cells (Rw.cells x).toArray 27) = W := ⟨_, rfl⟩
  rw [hW] at hrow F2 ⊢
  clear hW
  refine (lives10 _).mono ?_
  rintro e w4 ⟨rfl, f4⟩
  replace F2 := F2.trans f4
  replace hrow := hrow.fut f4
  clear f4
  go_wp2_with fail
  refine (turned_any 3 (by omega) _ l w4 M (by omega) (H.out.fut RTn.stays F2)).mono ?_
  rintro e w5 ⟨b, pb, mb, lv, rv, rfl, hR, hO, hA, f5⟩
  have hsum := turnsL_sum 3 l l.length (Nat.le_refl _)
  rw [List.take_length] at hsum
  generalize hT : turnsL 3 l = T at hR hO hsum
  obtain ⟨xs, g⟩ := T
  simp only at hR hO hsum
  have hoks := rows_ok hR.pl.list.rep
  have hnd := hR.pl.nodup
  have hxl : xs.length ≤ 1407374883512 := by omega
  replace hrow := hrow.fut f5
  replace F2 := F2.trans f5
  clear f5 hsum
  obtain ⟨Ar, capr, rfl, hcr, _⟩ := hO.rep.form
  have HRow := Lib.hid hrow
  have HR := Lib.hid hR
  have HF := Lib.hid F2
  have HOr := Lib.hid hO
  have HAp := Lib.hid hA
  clear hrow hR F2 hO hA
  go_wp2_with fail
  refine GV.wp_graph 15 [.d, .d, .d, .r (fun v w => OwnL 1 w5.heap.size 3 RI w v (selL 3 m x xs) ∧ (selL 3 m x xs = [] → v.ownBlock = none)), .d, .d, .d, .v [3] (fun us v w => OwnL 1 w5.heap.size 3 RI w v (selL 3 m x xs) ∧ (selL 3 m x xs = [] → v.ownBlock = none) ∧ ∀ j k, (us.getD 0 undef).ownBlock = some j → v.ownBlock = some k → j < k), .d, .d, .v [7] (fun us v w => OwnL 1 w5.heap.size 3 RI w v (selL 3 0 x xs) ∧ (selL 3 0 x xs = [] → v.ownBlock = none) ∧ ∀ j k, (us.getD 0 undef).ownBlock = some j → v.ownBlock = some k → j < k), .d, .d, .d, .v [10] (fun us v w => OwnL 1 w5.heap.size 3 RI w v (selL 3 m x xs) ∧ (selL 3 m x xs = [] → v.ownBlock = none) ∧ ∀ j k, (us.getD 0 undef).ownBlock = some j → v.ownBlock = some k → j < k)] (by kernel_rfl) (by kernel_rfl) (by kernel_rfl) (by simp only [List.map_cons, List.map_nil, GV.Sh.ds, GV.Sh.isRel]; kernel_rfl) ?_
  simp only [List.take_succ_cons, List.take_zero, List.drop_succ_cons, List.drop_zero, GV.Exs]
  iterate 11 apply Exists.intro
  apply GV.Run.valG (wanted_none rfl _)
  · intro w1 h1 hk
    have hg := (Fut.drew _).trans h1
    have hcw := fun b o => Below.cell (p := ⟨b, o, none⟩) h1
    go_simp; rfl
  simp only [Act.put, List.setIfInBounds_toArray, List.set_cons_succ, List.set_cons_zero, List.nil_append, List.cons_append]
  apply GV.Run.valG (wanted_none rfl _)
  · intro w1 h1 hk
    have hg := (Fut.drew _).trans h1
    have hcw := fun b o => Below.cell (p := ⟨b, o, none⟩) h1
    go_simp; rfl
  simp only [Act.put, List.setIfInBounds_toArray, List.set_cons_succ, List.set_cons_zero, List.nil_append, List.cons_append]
  apply GV.Run.valG (wanted_none rfl _)
  · intro w1 h1 hk
    have hg := (Fut.drew _).trans h1
    have hcw := fun b o => Below.cell (p := ⟨b, o, none⟩) h1
    exact exec_load_R rowTy _ rfl rfl (HRow.out.fut hg)
  simp only [Act.put, List.setIfInBounds_toArray, List.set_cons_succ, List.set_cons_zero, List.nil_append, List.cons_append]
  apply GV.Run.callR (wanted_none rfl _) (by intro us v w w' hf hs; exact ⟨hs.1.fut RI.stays hf, hs.2⟩) (fun _ _ => by go_simp; exact ⟨rfl, rfl⟩)
  · intro w1 h1 hk
    have hg := (Fut.drew _).trans h1
    refine (select_own hm (HR.out.fut hg) hxl x X.out).mono ?_; rintro e w' ⟨v, rfl, hO, hf, hN⟩; exact ⟨v, rfl, hf, hO.base hg.size, hN⟩
  intro v3
  simp only [Act.put, List.setIfInBounds_toArray, List.set_cons_succ, List.set_cons_zero, List.nil_append, List.cons_append]
  apply GV.Run.valG (wanted_none rfl _)
  · intro w1 h1 hk
    have hg := (Fut.drew _).trans h1
    have hcw := fun b o => Below.cell (p := ⟨b, o, none⟩) h1
    go_simp; rfl
  simp only [Act.put, List.setIfInBounds_toArray, List.set_cons_succ, List.set_cons_zero, List.nil_append, List.cons_append]
  apply GV.Run.valG (wanted_none rfl _)
  · intro w1 h1 hk
    have hg := (Fut.drew _).trans h1
    have hcw := fun b o => Below.cell (p := ⟨b, o, none⟩) h1
    go_simp; rfl
  simp only [Act.put, List.setIfInBounds_toArray, List.set_cons_succ, List.set_cons_zero, List.nil_append, List.cons_append]
  apply GV.Run.valG (wanted_none rfl _)
  · intro w1 h1 hk
    have hg := (Fut.drew _).trans h1
    have hcw := fun b o => Below.cell (p := ⟨b, o, none⟩) h1
    exact exec_load_R rowTy _ rfl rfl (HRow.out.fut hg)
  simp only [Act.put, List.setIfInBounds_toArray, List.set_cons_succ, List.set_cons_zero, List.nil_append, List.cons_append]
  apply GV.Run.callR (wanted_none rfl _) (by intro us v w w' hf hs; exact ⟨hs.1.fut RI.stays hf, hs.2⟩) (fun _ _ => by go_simp; exact ⟨rfl, rfl⟩)
  · intro w1 h1 hk
    have f3 := Facts.get hk 0 rfl (by kernel_rfl)
    have hg := (Fut.drew _).trans h1
    refine (select_own hm (HR.out.fut hg) hxl x X.out).mono ?_; rintro e w' ⟨v, rfl, hO, hf, hN⟩; exact ⟨v, rfl, hf, hO.base hg.size, hN, fun j k hj hk => Nat.lt_of_lt_of_le (f3.1.block j hj).2 (hO.block k hk).1⟩
  intro v7
  simp only [Act.put, List.setIfInBounds_toArray, List.set_cons_succ, List.set_cons_zero, List.nil_append, List.cons_append]
  apply GV.Run.valG (wanted_none rfl _)
  · intro w1 h1 hk
    have hg := (Fut.drew _).trans h1
    have hcw := fun b o => Below.cell (p := ⟨b, o, none⟩) h1
    go_simp; rfl
  simp only [Act.put, List.setIfInBounds_toArray, List.set_cons_succ, List.set_cons_zero, List.nil_append, List.cons_append]
  apply GV.Run.valG (wanted_none rfl _)
  · intro w1 h1 hk
    have hg := (Fut.drew _).trans h1
    have hcw := fun b o => Below.cell (p := ⟨b, o, none⟩) h1
    exact exec_load_R rowTy _ rfl rfl (HRow.out.fut hg)
  simp only [Act.put, List.setIfInBounds_toArray, List.set_cons_succ, List.set_cons_zero, List.nil_append, List.cons_append]
  apply GV.Run.callR (wanted_none rfl _) (by intro us v w w' hf hs; exact ⟨hs.1.fut RI.stays hf, hs.2⟩) (fun _ _ => by go_simp; exact ⟨rfl, rfl⟩)
  · intro w1 h1 hk
    have f7 := Facts.get hk 1 rfl (by kernel_rfl)
    have hg := (Fut.drew _).trans h1
    refine (select_own (m := 0) (by decide) (HR.out.fut hg) hxl x X.out).mono ?_; rintro e w' ⟨v, rfl, hO, hf, hN⟩; exact ⟨v, rfl, hf, hO.base hg.size, hN, fun j k hj hk => Nat.lt_of_lt_of_le (f7.1.block j hj).2 (hO.block k hk).1⟩
  intro v10
  simp only [Act.put, List.setIfInBounds_toArray, List.set_cons_succ, List.set_cons_zero, List.nil_append, List.cons_append]
  apply GV.Run.valG (wanted_none rfl _)
  · intro w1 h1 hk
    have hg := (Fut.drew _).trans h1
    have hcw := fun b o => Below.cell (p := ⟨b, o, none⟩) h1
    go_simp; rfl
  simp only [Act.put, List.setIfInBounds_toArray, List.set_cons_succ, List.set_cons_zero, List.nil_append, List.cons_append]
  apply GV.Run.valG (wanted_none rfl _)
  · intro w1 h1 hk
    have hg := (Fut.drew _).trans h1
    have hcw := fun b o => Below.cell (p := ⟨b, o, none⟩) h1
    go_simp; rfl
  simp only [Act.put, List.setIfInBounds_toArray, List.set_cons_succ, List.set_cons_zero, List.nil_append, List.cons_append]
  apply GV.Run.valG (wanted_none rfl _)
  · intro w1 h1 hk
    have hg := (Fut.drew _).trans h1
    have hcw := fun b o => Below.cell (p := ⟨b, o, none⟩) h1
    exact exec_load_R rowTy _ rfl rfl (HRow.out.fut hg)
  simp only [Act.put, List.setIfInBounds_toArray, List.set_cons_succ, List.set_cons_zero, List.nil_append, List.cons_append]
  apply GV.Run.callR (wanted_none rfl _) (by intro us v w w' hf hs; exact ⟨hs.1.fut RI.stays hf, hs.2⟩) (fun _ _ => by go_simp; exact ⟨rfl, rfl⟩)
  · intro w1 h1 hk
    have f10 := Facts.get hk 2 rfl (by kernel_rfl)
    have hg := (Fut.drew _).trans h1
    refine (select_own hm (HR.out.fut hg) hxl x X.out).mono ?_; rintro e w' ⟨v, rfl, hO, hf, hN⟩; exact ⟨v, rfl, hf, hO.base hg.size, hN, fun j k hj hk => Nat.lt_of_lt_of_le (f10.1.block j hj).2 (hO.block k hk).1⟩
  intro v14
  simp only [Act.put, List.setIfInBounds_toArray, List.set_cons_succ, List.set_cons_zero, List.nil_append, List.cons_append]
  apply GV.Run.done
  intro w6 h6 hk
  obtain ⟨f3, f7, f10, f14, _⟩ := hk
  have g6 := (Fut.drew _).trans h6
  clear h6
  have N3 : w5.heap.size ≤ w6.heap.size := g6.size
  have D7 : ∀ j k, v3.ownBlock = some j → v7.ownBlock = some k → j < k := f7.2.2
  have D10 : ∀ j k, v7.ownBlock = some j → v10.ownBlock = some k → j < k := f10.2.2
  have D14 : ∀ j k, v10.ownBlock = some j → v14.ownBlock = some k → j < k := f14.2.2
  have E3 : ∀ j, v3.ownBlock = some j → selL 3 m x xs ≠ [] := fun j hj he => by rw [f3.2 he] at hj; cases hj
  have E14 : ∀ j, v14.ownBlock = some j → selL 3 m x xs ≠ [] := fun j hj he => by rw [f14.2.1 he] at hj; cases hj
  have EC : selL 3 m x xs ≠ [] → selL 3 0 x xs ≠ [] := fun h1 h2 => by
    have h3 := sel_none_len (ar := 3) X.out hoks
    rw [h2] at h3
    have : xs = [] := List.length_eq_zero_iff.1 h3.symm
    subst this
    exact h1 rfl
  have D3a : ∀ j k, v3.ownBlock = some j → v10.ownBlock = some k → j < k := fun j k hj hk => by
    obtain ⟨i, hi⟩ := f7.1.own_some (E3 j hj)
    exact Nat.lt_trans (D7 j i hj hi) (D10 i k hi hk)
  have D7b : ∀ j k, v7.ownBlock = some j → v14.ownBlock = some k → j < k := fun j k hj hk => by
    obtain ⟨i, hi⟩ := f10.1.own_some (EC (E14 k hk))
    exact Nat.lt_trans (D10 j i hj hi) (D14 i k hi hk)
  have D3b : ∀ j k, v3.ownBlock = some j → v14.ownBlock = some k → j < k := fun j k hj hk => by
    obtain ⟨i, hi⟩ := f7.1.own_some (E3 j hj)
    exact Nat.lt_trans (D7 j i hj hi) (D7b i k hi hk)
  have O3 := f3.1
  have O7 := f7.1
  have O10 := f10.1
  have O14 := f14.1
  clear f3 f7 f10 f14 E3 E14 EC
  obtain ⟨A3, c3, rfl, _, _⟩ := O3.rep.form
  obtain ⟨A7, c7, rfl, _, _⟩ := O7.rep.form
  obtain ⟨A10, c10, rfl, _, _⟩ := O10.rep.form
  obtain ⟨A14, c14, rfl, _, _⟩ := O14.rep.form
  have hcl0 : (selL 3 0 x xs).length = xs.length := sel_none_len X.out hoks
  have hsl : (selL 3 m x xs).length ≤ xs.length := selK_len 3 m x xs xs.length
  generalize hLm : selL 3 m x xs = L at *
  rw [hcl0] at O10 D10 D14 D3a ⊢
  have HO3 := Lib.hid O3
  have HO7 := Lib.hid O7
  have HO10 := Lib.hid O10
  have HO14 := Lib.hid O14
  have HD := Lib.hid (And.intro D7 (And.intro D10 (And.intro D14 (And.intro D3a (And.intro D7b D3b)))))
  clear O3 O7 O10 O14 D7 D10 D14 D3a D7b D3b
  have HR6 := Lib.hid (HR.out.fut g6)
  go_wp2_with fail
  refine (sorted_own HR6.out hxl).mono ?_
  rintro e w7 ⟨s, ys, rfl, hp1, hs1, hS, f7⟩
  go_wp2_with fail
  refine (sorted_own (HR6.out.fut f7) hxl).mono ?_
  rintro e w8 ⟨t, ys2, rfl, hp2, hs2, hT2, f8⟩
  obtain rfl := sorted_unique hp1 hp2 hs1 hs2
  go_wp2_with fail
  refine (clone_le (HR6.out.fut (f7.trans f8)) hxl).mono ?_
  rintro e w9 ⟨b', pb', mb', lv', rfl, hR9, f9⟩
  go_wp2_with fail
  refine (sorted_own hR9 hxl).mono ?_
  rintro e w10 ⟨u, ys3, rfl, hp3, hs3, hU, f10⟩
  obtain rfl := sorted_unique hp1 hp3 hs1 hs3
  have hyl : ys.length = xs.length := hp1.length_eq
  clear hp2 hs2 hp3 hs3 hR9
  have S7 := hS.block
  have g7 := f7.size
  have g8 := f8.size
  have g9 := f9.size
  have T8 := hT2.block
  have U10 := hU.block
  have DST : ∀ j k, s.ownBlock = some j → t.ownBlock = some k → j < k := fun j k hj hk => Nat.lt_of_lt_of_le (S7 j hj).2 (T8 k hk).1
  have DSU : ∀ j k, s.ownBlock = some j → u.ownBlock = some k → j < k := fun j k hj hk => Nat.lt_of_lt_of_le (S7 j hj).2 (Nat.le_trans g8 (Nat.le_trans g9 (U10 k hk).1))
  have DTU : ∀ j k, t.ownBlock = some j → u.ownBlock = some k → j < k := fun j k hj hk => Nat.lt_of_lt_of_le (T8 j hj).2 (Nat.le_trans g9 (U10 k hk).1)
  have hS' := ((hS.fut RR.stays f8).fut RR.stays (f9.trans f10)).base N3
  have hT' := (hT2.fut RR.stays (f9.trans f10)).base (Nat.le_trans N3 g7)
  have hU' := hU.base (Nat.le_trans N3 (Nat.le_trans g7 (Nat.le_trans g8 g9)))
  have G := f7.trans (f8.trans (f9.trans f10))
  obtain ⟨As, cs, rfl, _, _⟩ := hS'.rep.form
  obtain ⟨At, ct, rfl, _, _⟩ := hT'.rep.form
  obtain ⟨Au, cu, rfl, _, _⟩ := hU'.rep.form
  rw [hyl] at hS' hT' hU' DST DSU DTU ⊢
  have HS := Lib.hid hS'
  have HT := Lib.hid hT'
  have HU := Lib.hid hU'
  have HD2 := Lib.hid (And.intro DST (And.intro DSU DTU))
  have HR10 := Lib.hid (HR6.out.fut G)
  have K3 := Lib.hid (HO3.out.fut RI.stays G)
  have K7 := Lib.hid (HO7.out.fut RI.stays G)
  have K10 := Lib.hid (HO10.out.fut RI.stays G)
  have K14 := Lib.hid (HO14.out.fut RI.stays G)
  have HG := Lib.hid (g6.trans G)
  clear hS hT2 hU S7 T8 U10 DST DSU DTU hS' hT' hU' G g7 g8 g9 f7 f8 f9 f10 HO3 HO7 HO10 HO14 HR6 g6
  go_wp2_with fail
  refine (sameInts_any K3.out.rep K7.out.rep (by omega)).mono ?_
  rintro e w11 ⟨rfl, f11⟩
  go_wp2_with fail
  refine (sameInts_any (K3.out.fut RI.stays f11).rep (K14.out.fut RI.stays f11).rep (by omega)).mono ?_
  rintro e w12 ⟨rfl, f12⟩
  replace f12 := f11.trans f12
  clear f11
  go_wp2_with fail
  refine (sameRows_any (HS.out.fut RR.stays f12).rep (HT.out.fut RR.stays f12).rep (by omega)).mono ?_
  rintro e w13 ⟨rfl, f13⟩
  replace f13 := f12.trans f13
  clear f12
  go_wp2_with fail
  refine (sameRows_any (HS.out.fut RR.stays f13).rep (HU.out.fut RR.stays f13).rep (by omega)).mono ?_
  rintro e w14 ⟨rfl, f14⟩
  replace f14 := f13.trans f14
  clear f13
  have HRa := Lib.hid (HR10.out.fut f14)
  have La := Lib.hid (K3.out.fut RI.stays f14)
  have Lb := Lib.hid (K7.out.fut RI.stays f14)
  have Lc := Lib.hid (K10.out.fut RI.stays f14)
  have Ld := Lib.hid (K14.out.fut RI.stays f14)
  have Ls := Lib.hid (HS.out.fut RR.stays f14)
  have Lt := Lib.hid (HT.out.fut RR.stays f14)
  have Lu := Lib.hid (HU.out.fut RR.stays f14)
  have HGa := Lib.hid (HG.out.trans f14)
  have N14 : w5.heap.size ≤ w14.heap.size := HGa.out.size
  have HRow2 := Lib.hid (HRow.out.fut HGa.out)
  have HOr2 := Lib.hid (HOr.out.fut RR.stays HGa.out)
  clear K3 K7 K10 K14 HS HT HU HR10 HG f14
  have hLa : ([] : List Int).length + L.length ≤ 17592186044416 := by simp; omega
  have hLr : ([] : List Rw).length + ys.length ≤ 1407374883512 := by simp; omega
  have e15 := Nat.le_refl w14.heap.size
  go_wp2_with (first | (refine wpList_append_I (by go_simp) _ _ rfl rfl rfl (OwnL.nil (B := w14.heap.size)) La.out.rep hLa e15 ?_; intro va wa hOa hGa hBa; obtain ⟨Aa, ca, hva, hca, _⟩ := hOa.rep.form; subst hva; have fa := Fut.grown (Fut.refl _) hGa (fun k hk => by cases hk); have e16 := fa.size) | (refine wpList_append_R (by go_simp) _ _ rfl Tryz.underlying30 infoR rfl rfl (OwnL.nil (B := w14.heap.size)) (Ls.out.fut RR.stays fa).rep hLr e16 ?_; intro vb wb hOb hGb hBb; obtain ⟨Ab, cb, hvb, hcb, _⟩ := hOb.rep.form; subst hvb; have fb := Fut.grown (Fut.refl _) hGb (fun k hk => by cases hk)) | fail)
  have hB := heap_alloc_new wb (.cells #[Value.int IntKind.i64 0, Value.slice none 0 0, Value.slice none 0 0, Value.slice none 0 0, Value.slice none 0 0, Value.slice none 0 0, Value.slice none 0 0, Value.slice none 0 0, Value.slice none 0 0, Value.slice none 0 0, Value.slice none 0 0, Value.slice none 0 0, Value.slice none 0 0, Value.slice none 0 0, Value.slice none 0 0, Value.slice none 0 0, Value.slice none 0 0, Value.slice none 0 0, Value.slice none 0 0, Value.slice none 0 0, Value.slice none 0 0, Value.slice none 0 0, Value.slice none 0 0, Value.slice none 0 0, Value.slice none 0 0, Value.slice none 0 0, Value.slice none 0 0, Value.slice none 0 0, Value.slice none 0 0, Value.slice none 0 0, Value.slice none 0 0, Value.slice none 0 0] 71)
  have F15 := Fut.alloc wb (.cells #[Value.int IntKind.i64 0, Value.slice none 0 0, Value.slice none 0 0, Value.slice none 0 0, Value.slice none 0 0, Value.slice none 0 0, Value.slice none 0 0, Value.slice none 0 0, Value.slice none 0 0, Value.slice none 0 0, Value.slice none 0 0, Value.slice none 0 0, Value.slice none 0 0, Value.slice none 0 0, Value.slice none 0 0, Value.slice none 0 0, Value.slice none 0 0, Value.slice none 0 0, Value.slice none 0 0, Value.slice none 0 0, Value.slice none 0 0, Value.slice none 0 0, Value.slice none 0 0, Value.slice none 0 0, Value.slice none 0 0, Value.slice none 0 0, Value.slice none 0 0, Value.slice none 0 0, Value.slice none 0 0, Value.slice none 0 0, Value.slice none 0 0, Value.slice none 0 0] 71)
  obtain ⟨w15, hW⟩ : ∃ W, wb.alloc (.cells #[Value.int IntKind.i64 0, Value.slice none 0 0, Value.slice none 0 0, Value.slice none 0 0, Value.slice none 0 0, Value.slice none 0 0, Value.slice none 0 0, Value.slice none 0 0, Value.slice none 0 0, Value.slice none 0 0, Value.slice none 0 0, Value.slice none 0 0, Value.slice none 0 0, Value.slice none 0 0, Value.slice none 0 0, Value.slice none 0 0, Value.slice none 0 0, Value.slice none 0 0, Value.slice none 0 0, Value.slice none 0 0, Value.slice none 0 0, Value.slice none 0 0, Value.slice none 0 0, Value.slice none 0 0, Value.slice none 0 0, Value.slice none 0 0, Value.slice none 0 0, Value.slice none 0 0, Value.slice none 0 0, Value.slice none 0 0, Value.slice none 0 0, Value.slice none 0 0] 71) = W := ⟨_, rfl⟩
  rw [hW] at hB F15 ⊢
  clear hW
  have Nb : w14.heap.size ≤ wb.heap.size := Nat.le_trans e16 fb.size
  have Nc : wb.heap.size ≤ w15.heap.size := F15.size
  have F14 := fa.trans (fb.trans F15)
  have Ka := La.out.fut RI.stays F14
  have Kb := Lb.out.fut RI.stays F14
  have Kc := Lc.out.fut RI.stays F14
  have Kd := Ld.out.fut RI.stays F14
  have Ks := Ls.out.fut RR.stays F14
  have Kt := Lt.out.fut RR.stays F14
  have Ku := Lu.out.fut RR.stays F14
  have ba := La.out.block
  have bb := Lb.out.block
  have bc := Lc.out.block
  have bd := Ld.out.block
  have bs := Ls.out.block
  have bt := Lt.out.block
  have bu := Lu.out.block
  obtain ⟨D7, D10, D14, D3a, D7b, D3b⟩ := HD.out
  obtain ⟨DST, DSU, DTU⟩ := HD2.out
  have BK0 : Hid (Bk w5.heap.size wb.heap.size w15 w15 0 (fun _ => .slice none 0 0) [] [] (fun _ => []) (fun _ => [])) := Lib.hid ⟨IR.new (book_new hB rfl) (Nat.le_trans N14 (Nat.le_trans Nb Nc)) _ _, fun j y hy => (by cases hy), Only.refl _⟩
  have IB := Lib.hid (And.intro ba (And.intro bb (And.intro bc (And.intro bd (And.intro bs (And.intro bt bu))))))
  have IK := Lib.hid (And.intro Ka (And.intro Kb (And.intro Kc (And.intro Kd (And.intro Ks (And.intro Kt Ku))))))
  rw [List.nil_append] at hOa hOb
  have WA : ∀ k, (Value.slice Aa L.length ca).ownBlock = some k → w14.heap.size ≤ k ∧ k < wb.heap.size := fun k hk => ⟨(hOa.block k hk).1, Nat.lt_of_lt_of_le (hOa.block k hk).2 fb.size⟩
  have WB : ∀ k, (Value.slice Ab ys.length cb).ownBlock = some k → w14.heap.size ≤ k ∧ k < wb.heap.size := fun k hk => hOb.block k hk
  rw [hyl] at WB hOb
  have IX := Lib.hid (And.intro (And.intro (hOa.fut RI.stays (fb.trans F15)) WA) (And.intro (And.intro (hOb.fut RR.stays F15) WB) F14))
  clear WA WB
  clear hB ba bb bc bd bs bt bu Ka Kb Kc Kd Ks Kt Ku D7 D10 D14 D3a D7b D3b DST DSU DTU hOa hOb hGa hGb hBa hBb fa fb F15 F14
  refine (BK0.out.ints (by omega) (by simp) IK.out.1 (fun k hk => by have := (IB.out.1 k hk).2; omega) (fun k hk h => ownsL_nil h)).mono ?_
  rintro e w16 ⟨⟨u1, rfl⟩, vs1, h1⟩
  have BK1 := Lib.hid h1
  clear h1 BK0
  go_wp2_with fail
  refine (BK1.out.ints (by omega) (by simp) IK.out.2.1 (fun k hk => by have := (IB.out.2.1 k hk).2; omega) (fun k hk h => by
    simp only [ownsL_snoc, ownsL_nil, false_or] at h
    exact absurd (HD.out.1 k k h hk) (by omega))).mono ?_
  rintro e w17 ⟨⟨u2, rfl⟩, vs2, h1⟩
  have BK2 := Lib.hid h1
  clear h1 BK1
  go_wp2_with fail
  refine (BK2.out.ints (by omega) (by simp) IK.out.2.2.1 (fun k hk => by have := (IB.out.2.2.1 k hk).2; omega) (fun k hk h => by
    simp only [ownsL_snoc, ownsL_nil, false_or] at h
    rcases h with h | h
    · exact absurd (HD.out.2.2.2.1 k k h hk) (by omega)
    · exact absurd (HD.out.2.1 k k h hk) (by omega))).mono ?_
  rintro e w18 ⟨⟨u3, rfl⟩, vs3, h1⟩
  have BK3 := Lib.hid h1
  clear h1 BK2
  go_wp2_with fail
  refine (BK3.out.ints (by omega) (by simp) IK.out.2.2.2.1 (fun k hk => by have := (IB.out.2.2.2.1 k hk).2; omega) (fun k hk h => by
    simp only [ownsL_snoc, ownsL_nil, false_or] at h
    rcases h with (h | h) | h
    · exact absurd (HD.out.2.2.2.2.2 k k h hk) (by omega)
    · exact absurd (HD.out.2.2.2.2.1 k k h hk) (by omega)
    · exact absurd (HD.out.2.2.1 k k h hk) (by omega))).mono ?_
  rintro e w19 ⟨⟨u4, rfl⟩, vs4, h1⟩
  have BK4 := Lib.hid h1
  clear h1 BK3
  go_wp2_with fail
  refine (BK4.out.rows (by omega) (by simp) IK.out.2.2.2.2.1 (fun k hk => by have := (IB.out.2.2.2.2.1 k hk).2; omega) (fun k hk h => ownsL_nil h)).mono ?_
  rintro e w20 ⟨⟨u5, rfl⟩, vs5, h1⟩
  have BK5 := Lib.hid h1
  clear h1 BK4
  go_wp2_with fail
  refine (BK5.out.rows (by omega) (by simp) IK.out.2.2.2.2.2.1 (fun k hk => by have := (IB.out.2.2.2.2.2.1 k hk).2; omega) (fun k hk h => by
    simp only [ownsL_snoc, ownsL_nil, false_or] at h
    exact absurd (HD2.out.1 k k h hk) (by omega))).mono ?_
  rintro e w21 ⟨⟨u6, rfl⟩, vs6, h1⟩
  have BK6 := Lib.hid h1
  clear h1 BK5
  go_wp2_with fail
  refine (BK6.out.rows (by omega) (by simp) IK.out.2.2.2.2.2.2 (fun k hk => by have := (IB.out.2.2.2.2.2.2 k hk).2; omega) (fun k hk h => by
    simp only [ownsL_snoc, ownsL_nil, false_or] at h
    rcases h with h | h
    · exact absurd (HD2.out.2.1 k k h hk) (by omega)
    · exact absurd (HD2.out.2.2 k k h hk) (by omega))).mono ?_
  rintro e w22 ⟨⟨u7, rfl⟩, vs7, h1⟩
  have BK7 := Lib.hid h1
  clear h1 BK6
  go_wp2_with fail
  have hLL : L.length + 70 ≤ 17592186044416 := by omega
  have hCC : (selL 3 0 x xs).length + 70 ≤ 17592186044416 := by omega
  have hYY : ys.length + 70 ≤ 1466015503700 := by omega
  refine (apart_any BK7.out.ir (fun i _ => snoc_len (snoc_len (snoc_len (snoc_len (by simp) hLL) hLL) hCC) hLL i) (fun i _ => snoc_len (snoc_len (snoc_len (by simp) hYY) hYY) hYY i)).mono ?_
  rintro e w23 ⟨rfl, hO0⟩
  have hOA : Only (fun k => (w5.heap.size ≤ k ∧ k < w14.heap.size) ∨ wb.heap.size ≤ k) w15 w23 := (BK7.out.on.mono (fun k _ hk => .inr hk)).trans (hO0.mono fun k _ hk => by
    rcases hk with (h | h) | (h | h)
    · simp only [ownsL_snoc, ownsL_nil, false_or] at h
      rcases h with ((h | h) | h) | h
      · exact .inl (IB.out.1 k h)
      · exact .inl (IB.out.2.1 k h)
      · exact .inl (IB.out.2.2.1 k h)
      · exact .inl (IB.out.2.2.2.1 k h)
    · exact .inr (BK7.out.low 14 k h)
    · simp only [ownsL_snoc, ownsL_nil, false_or] at h
      rcases h with (h | h) | h
      · exact .inl (by have := IB.out.2.2.2.2.1 k h; omega)
      · exact .inl (by have := IB.out.2.2.2.2.2.1 k h; omega)
      · exact .inl (by have := IB.out.2.2.2.2.2.2 k h; omega)
    · exact .inr (BK7.out.low 15 k h))
  clear hO0 BK7 IB IK HD HD2
  have hfoot : ∀ k, foot b pb mb lv k → k < w5.heap.size := fun k hk => by
    rcases hk with rfl | hk
    · exact (Array.getElem?_eq_some_iff.1 HR.out.blk).1
    · exact HR.out.pl.lt k hk
  have HRe := Lib.hid ((HRa.out.fut IX.out.2.2).only hOA (fun k hk => by have := hfoot k hk; omega))
  have HOe := Lib.hid ((HOr2.out.fut RR.stays IX.out.2.2).only (RR.same _ _) hOA (fun k hk => by have := (HOr.out.block k hk).2; omega))
  have hwl : w.heap.size < w5.heap.size := by
    have := lt_of_cell (HRow.out.get (k := 0) (by decide))
    exact this
  have HRw := Lib.hid ((HRow2.out.fut IX.out.2.2).only hOA (by omega))
  have HFe := Lib.hid (((Only.fut (S := fun k => w.heap.size ≤ k) ((HF.out.trans HGa.out).trans IX.out.2.2)).trans (hOA.mono fun k _ hk => by omega)).toFut fun k hk => hk)
  have HWa := Lib.hid (IX.out.1.1.only (RI.same _ _) hOA (fun k hk => by have := IX.out.1.2 k hk; omega))
  have HWb := Lib.hid (IX.out.2.1.1.only (RR.same _ _) hOA (fun k hk => by have := IX.out.2.1.2 k hk; omega))
  clear hfoot HRa HOr2 HRow2
  go_wp2_with fail
  go_loopw [20] (fun i wr => ∃ k : Nat, k ≤ xs.length ∧ i = .int .i64 k ∧ Hid (Fut w23 wr)) (fun i _ => xs.length - (intOf i).toNat)
  case atStart => exact ⟨0, Nat.zero_le _, rfl, Lib.hid (Fut.refl _)⟩
  case round =>
    obtain ⟨k, hk, rfl, hG⟩ := hrel
    by_cases hlt : k < xs.length
    · have hltI : (k : Int) < xs.length := by omega
      have e1 : (0 : Int) ≤ k ∧ (k : Int) < xs.length := by omega
      obtain ⟨gb, off, rfl, hrk⟩ := rows_at (HOe.out.rep.fut RR.stays hG.out) hlt
      have hym : xs[k] ∈ xs := List.getElem_mem hlt
      have hat := at_any (HRe.out.fut hG.out) k hlt
      generalize xs[k] = y at hrk hym hat
      have hy := hrk.1
      go_wp2_with fail
      refine hat.mono ?_
      rintro e wi8 ⟨rfl, fi8⟩
      go_wp2_with (first | (refine wpList_store_new rowTy (wanted_none rfl _) _ _ rfl rfl rfl rfl hy ?_))
      have hr9 := RowAt.new wi8 27 hy
      have fi9 := fi8.trans (Fut.alloc wi8 (.cells (Rw.cells y).toArray 27))
      obtain ⟨wi9, hW⟩ : ∃ W, wi8.alloc (.cells (Rw.cells y).toArray 27) = W := ⟨_, rfl⟩
      rw [hW] at hr9 fi9 ⊢
      clear hW fi8
      have hrk9 := hrk.fut fi9
      have HR9 := Lib.hid (HRe.out.fut (hG.out.trans fi9))
      go_wp2_with fail
      refine wp_graph 16 [.d, .d, .d, .d, .d, .d, .d, .d, .d, .d, .d, .d, .d, .d, .d, .d] (by kernel_rfl) (by kernel_rfl) (by kernel_rfl) ?_
      simp only [List.take_succ_cons, List.take_zero, List.drop_succ_cons, List.drop_zero, Exs]
      iterate 16 apply Exists.intro
      apply Run.valG (wanted_none rfl _)
      · intro w1 h1 hk
        have hg := (Fut.drew _).trans h1
        have hcw := fun b o => Below.cell (p := ⟨b, o, none⟩) h1
        go_simp; rfl
      simp only [Act.put, List.setIfInBounds_toArray, List.set_cons_succ, List.set_cons_zero, List.nil_append, List.cons_append]
      apply Run.valG (wanted_none rfl _)
      · intro w1 h1 hk
        have hg := (Fut.drew _).trans h1
        have hcw := fun b o => Below.cell (p := ⟨b, o, none⟩) h1
        go_simp; rfl
      simp only [Act.put, List.setIfInBounds_toArray, List.set_cons_succ, List.set_cons_zero, List.nil_append, List.cons_append]
      apply Run.valG (wanted_none rfl _)
      · intro w1 h1 hk
        have hg := (Fut.drew _).trans h1
        have hcw := fun b o => Below.cell (p := ⟨b, o, none⟩) h1
        go_simp; rfl
      simp only [Act.put, List.setIfInBounds_toArray, List.set_cons_succ, List.set_cons_zero, List.nil_append, List.cons_append]
      apply Run.valG (by go_simp)
      · intro w1 h1 hk
        have hg := (Fut.drew _).trans h1
        have hcw := fun b o => Below.cell (p := ⟨b, o, none⟩) h1
        exact exec_load_R rowTy _ rfl rfl (hr9.fut hg)
      simp only [Act.put, List.setIfInBounds_toArray, List.set_cons_succ, List.set_cons_zero, List.nil_append, List.cons_append]
      apply Run.valG (by go_simp)
      · intro w1 h1 hk
        have hg := (Fut.drew _).trans h1
        have hcw := fun b o => Below.cell (p := ⟨b, o, none⟩) h1
        go_simp; rfl
      simp only [Act.put, List.setIfInBounds_toArray, List.set_cons_succ, List.set_cons_zero, List.nil_append, List.cons_append]
      apply Run.valG (by go_simp)
      · intro w1 h1 hk
        have hg := (Fut.drew _).trans h1
        have hcw := fun b o => Below.cell (p := ⟨b, o, none⟩) h1
        go_simp; rfl
      simp only [Act.put, List.setIfInBounds_toArray, List.set_cons_succ, List.set_cons_zero, List.nil_append, List.cons_append]
      apply Run.valG (by go_simp)
      · intro w1 h1 hk
        have hg := (Fut.drew _).trans h1
        have hcw := fun b o => Below.cell (p := ⟨b, o, none⟩) h1
        go_simp; rfl
      simp only [Act.put, List.setIfInBounds_toArray, List.set_cons_succ, List.set_cons_zero, List.nil_append, List.cons_append]
      apply Run.valG (by go_simp)
      · intro w1 h1 hk
        have hg := (Fut.drew _).trans h1
        have hcw := fun b o => Below.cell (p := ⟨b, o, none⟩) h1
        exact exec_load_R rowTy _ rfl rfl (hrk9.fut hg)
      simp only [Act.put, List.setIfInBounds_toArray, List.set_cons_succ, List.set_cons_zero, List.nil_append, List.cons_append]
      apply Run.valG (by go_simp)
      · intro w1 h1 hk
        have hg := (Fut.drew _).trans h1
        have hcw := fun b o => Below.cell (p := ⟨b, o, none⟩) h1
        exact exec_neq_R rowTy noGuard _ _ _ rfl rfl rfl hy hy
      simp only [Act.put, List.setIfInBounds_toArray, List.set_cons_succ, List.set_cons_zero, List.nil_append, List.cons_append]
      apply Run.valG (wanted_none rfl _)
      · intro w1 h1 hk
        have hg := (Fut.drew _).trans h1
        have hcw := fun b o => Below.cell (p := ⟨b, o, none⟩) h1
        go_simp; rfl
      simp only [Act.put, List.setIfInBounds_toArray, List.set_cons_succ, List.set_cons_zero, List.nil_append, List.cons_append]
      apply Run.valG (wanted_none rfl _)
      · intro w1 h1 hk
        have hg := (Fut.drew _).trans h1
        have hcw := fun b o => Below.cell (p := ⟨b, o, none⟩) h1
        go_simp; rfl
      simp only [Act.put, List.setIfInBounds_toArray, List.set_cons_succ, List.set_cons_zero, List.nil_append, List.cons_append]
      apply Run.valG (by go_simp)
      · intro w1 h1 hk
        have hg := (Fut.drew _).trans h1
        have hcw := fun b o => Below.cell (p := ⟨b, o, none⟩) h1
        go_simp; rfl
      simp only [Act.put, List.setIfInBounds_toArray, List.set_cons_succ, List.set_cons_zero, List.nil_append, List.cons_append]
      apply Run.valG (by go_simp)
      · intro w1 h1 hk
        have hg := (Fut.drew _).trans h1
        have hcw := fun b o => Below.cell (p := ⟨b, o, none⟩) h1
        exact exec_load_R rowTy _ rfl rfl (hr9.fut hg)
      simp only [Act.put, List.setIfInBounds_toArray, List.set_cons_succ, List.set_cons_zero, List.nil_append, List.cons_append]
      apply Run.call (by go_simp) (fun _ _ => by go_simp; exact ⟨rfl, rfl⟩)
      · intro w1 h1 hk
        have hg := (Fut.drew _).trans h1
        refine (has_any (HR9.out.fut hg) y hy).mono ?_; rintro e w' ⟨rfl, hf⟩; rw [decide_eq_true hym]; exact ⟨rfl, hf⟩
      simp only [Act.put, List.setIfInBounds_toArray, List.set_cons_succ, List.set_cons_zero, List.nil_append, List.cons_append]
      apply Run.valG (by go_simp)
      · intro w1 h1 hk
        have hg := (Fut.drew _).trans h1
        have hcw := fun b o => Below.cell (p := ⟨b, o, none⟩) h1
        go_simp; rfl
      simp only [Act.put, List.setIfInBounds_toArray, List.set_cons_succ, List.set_cons_zero, List.nil_append, List.cons_append]
      apply Run.valG (wanted_none rfl _)
      · intro w1 h1 hk
        have hg := (Fut.drew _).trans h1
        have hcw := fun b o => Below.cell (p := ⟨b, o, none⟩) h1
        go_simp; rfl
      simp only [Act.put, List.setIfInBounds_toArray, List.set_cons_succ, List.set_cons_zero, List.nil_append, List.cons_append]
      apply Run.done
      intro wa' ha' hk
      clear hk
      have HGi := Lib.hid (hG.out.trans (fi9.trans ((Fut.drew _).trans ha')))
      go_wp2
      go_roundw
      case rel => exact ⟨k + 1, by omega, by go_num, HGi⟩
      case measure => simp [intOf] <;> omega
    · obtain rfl : k = xs.length := by omega
      obtain ⟨wq, hwq⟩ : ∃ x, x = wr := ⟨_, rfl⟩
      subst hwq
      have hRwq := HRw.out.fut hG.out
      go_wp2_with (first | (refine wpList_load_R rowTy (by go_simp) _ rfl rfl hRwq ?_))
      refine (select_any hm (HRe.out.fut hG.out) hxl x X.out).mono ?_
      rintro e w25 ⟨v25, rfl, hv25, f25⟩
      rw [hLm] at hv25
      have hG25 := Lib.hid (hG.out.trans f25)
      clear hG f25 hRwq
      go_wp2_with fail
      refine (sameInts_any hv25.rep (HWa.out.fut RI.stays hG25.out).rep (by omega)).mono ?_
      rintro e w26 ⟨rfl, f26⟩
      have hG26 := Lib.hid (hG25.out.trans f26)
      clear hG25 f26
      go_wp2_with fail
      refine (sorted_any (HRe.out.fut hG26.out) hxl).mono ?_
      rintro e w27 ⟨v27, ys27, rfl, hp27, hs27, hv27, f27⟩
      obtain rfl := sorted_unique hp1 hp27 hs1 hs27
      have hG27 := Lib.hid (hG26.out.trans f27)
      clear hG26 f27
      go_wp2_with fail
      refine (sameRows_any hv27 (HWb.out.fut RR.stays hG27.out).rep (by omega)).mono ?_
      rintro e w28 ⟨rfl, f28⟩
      go_wp2
      go_ret
      exact ⟨rfl, HFe.out.trans (hG27.out.trans f28)⟩
end Go.Proofs.YtijdichfaofjaaaGreatDoor
/- How rows, turns, lists of them are read off the arguments; RelationSplits. -/
namespace Go.Proofs.YtijdichfaofjaaaGreatDoor
open Go.RowKit Go.WideMaps Go.ChangeShapes Go.WideShapes Go.ChangeAt Go.Deep
set_option linter.unusedSimpArgs false
set_option linter.unusedVariables false

theorem mapM_each {α : Type} {f : Nat → Option α} : ∀ (L : List Nat) (ys : List α), L.mapM f = some ys → ∀ i ∈ L, ∃ y, f i = some y
  | [], _, _, i, hi => by cases hi
  | j :: L, ys, h, i, hi => by
    rw [List.mapM_cons] at h
    simp only [bind, Option.bind_eq_some_iff, pure, Option.some.injEq] at h
    obtain ⟨y, hy, zs, hz, rfl⟩ := h
    rcases List.mem_cons.1 hi with rfl | hi
    · exact ⟨y, hy⟩
    · exact mapM_each L zs hz i hi
theorem reads_row {P : Program} {k e : TypeId} (T : RowTy P k e) : Reads P k RR := by
  intro H enc w base held fuel cs x h hn
  cases fuel with
  | zero => simp [DataW.trod] at h
  | succ m =>
    rw [DataW.trod_step] at h
    unfold DataW.trodStep at h
    simp only [T.A.hu] at h
    by_cases hl : cs.length = P.cellsOf k
    · rw [if_pos hl] at h
      simp only [Option.map_eq_some_iff] at h
      obtain ⟨ys, hy, _⟩ := h
      have hl24 : cs.length = 24 := hl.trans T.A.size
      obtain ⟨r, hrl, hr⟩ := exists_list (p := fun i (a : Int) => cs[i]? = some (.int .i32 a) ∧ (Lit.int .i32 a).wf = true) 24 fun i hi => by
        obtain ⟨y, hy'⟩ := mapM_each _ _ hy i (List.mem_range.2 hi)
        rw [T.A.one, Nat.mul_one] at hy'
        obtain ⟨a, ea, _, wa⟩ := DataW.trod_int T.he hy'
        refine ⟨a, ?_, wa⟩
        have h1 : (List.take 1 (List.drop i cs))[0]? = some (.int .i32 a) := by rw [ea]; rfl
        simpa using h1
      refine ⟨r, ?_, hrl, fun a ha => ?_⟩
      · refine List.ext_getElem? fun i => ?_
        unfold Rw.cells
        rw [List.getElem?_map]
        by_cases hi : i < 24
        · rw [(hr i r[i] (List.getElem?_eq_getElem (by omega))).1, List.getElem?_eq_getElem (by omega)]; rfl
        · rw [List.getElem?_eq_none (by omega), List.getElem?_eq_none (by omega)]; rfl
      · obtain ⟨i, hi⟩ := List.getElem?_of_mem ha
        exact (hr i a hi).2
    · rw [if_neg hl] at h; cases h
theorem reads_bool {P : Program} {t : TypeId} (ht : P.underlying t = some .bool) : Reads P t (fun _ cs (b : Bool) => cs = [.bool b]) := by
  intro H enc w base held fuel cs x h _
  obtain ⟨s, h1, _⟩ := DataW.trod_bool ht h
  exact ⟨s, h1⟩
end Go.Proofs.YtijdichfaofjaaaGreatDoor
/- How lists of turns are read off the arguments. -/
namespace Go.Proofs.YtijdichfaofjaaaGreatDoor
open Go.RowKit Go.WideMaps Go.ChangeShapes Go.WideShapes Go.ChangeAt Go.Deep
set_option linter.unusedSimpArgs false
set_option linter.unusedVariables false
set_option maxRecDepth 100000

theorem rTn : Reads Tryz.prog 85 RTn := by
  intro H enc w base held fuel cs x h hn
  have hl := (reads_len Tryz.underlying85 h).trans (show Tryz.prog.cellsOf 85 = 25 by kernel_rfl)
  obtain ⟨b, e0⟩ := reads_field Tryz.underlying85 h hn 0 rfl (reads_bool Tryz.underlying4)
  obtain ⟨r, e1, hr⟩ := reads_field Tryz.underlying85 h hn 1 rfl (reads_row rowTy)
  have c0 : Tryz.prog.cellsOf 4 = 1 := by kernel_rfl
  have c1 : Tryz.prog.cellsOf 27 = 24 := by kernel_rfl
  have g0 : (cs.drop 0).take 1 = [Value.bool b] := by rw [← c0]; exact e0
  have g1 : (cs.drop 1).take 24 = r.cells := by rw [← c1]; exact e1
  clear e0 e1
  refine ⟨⟨b, r⟩, ?_, hr⟩
  cases cs with
  | nil => simp at hl
  | cons c cs =>
    simp at g0 g1 hl
    subst g0
    rw [← g1, List.take_of_length_le (by omega)]
theorem rTns : Reads Tryz.prog 22 (SlR 25 1407374883512 RTn) :=
  reads_slice Tryz.underlying22 (by kernel_rfl) (by omega) (fun c h => by
    have hb : Tryz.prog.bytesOf 85 = 100 := by kernel_rfl
    rw [hb] at h; unfold reachBytes at h; omega) rTn

end Go.Proofs.YtijdichfaofjaaaGreatDoor
