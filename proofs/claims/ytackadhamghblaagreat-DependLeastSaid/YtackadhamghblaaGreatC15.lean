/- DPartsW, On, OnV -/
import Derived.Test.YtackadhamghblaaGreatC14
/- depend.graph.parts. -/
namespace Go.Proofs.YtackadhamghblaaGreat
open Go.RowKit Go.WideMaps Go.Maps
set_option linter.unusedSimpArgs false
set_option linter.unusedVariables false

def stepJ (G : Gr) (N : Nat) (acc : Option TS) (s : ByteArray) : Option TS :=
  match acc with
  | none => none
  | some T => match lkN T.inn s with
    | some _ => some T
    | none => (visitT G N T s).map (·.1)
def tarjT (G : Gr) (N : Nat) : Option TS := G.sorted.foldl (stepJ G N) (some ⟨[], [], [], []⟩)
theorem foldJ_none (G : Gr) (N : Nat) : ∀ l : List ByteArray, l.foldl (stepJ G N) none = none
  | [] => rfl
  | x :: r => by rw [List.foldl_cons]; exact foldJ_none G N r
theorem foldJ_some {G : Gr} {N : Nat} {l : List ByteArray} {a r : TS} (h : l.foldl (stepJ G N) (some a) = some r) (k : Nat) : ∃ b, (l.take k).foldl (stepJ G N) (some a) = some b := by
  cases hq : (l.take k).foldl (stepJ G N) (some a) with
  | some b => exact ⟨b, rfl⟩
  | none =>
    rw [← List.take_append_drop k l, List.foldl_append, hq, foldJ_none] at h
    cases h
/-- What parts lays before it begins. -/
structure Laid (w W : World) (mb : Nat) : Prop where
  f : Fut w W
  sz : W.heap.size = w.heap.size + 1 + 1 + 1 + 1 + 1 + 1 + 1 + 1
  gb : W.heap[w.heap.size]? = some (.cells #[.map (some mb)] tG (0, 0))
  lm : MapE strV W (w.heap.size + 1) (encN [])
  im : MapE strV W (w.heap.size + 1 + 1) (encN [])
  lc : W.heap[w.heap.size + 1 + 1 + 1]? = some (.cells #[.map (some (w.heap.size + 1))] tVm (0, 0))
  ic : W.heap[w.heap.size + 1 + 1 + 1 + 1]? = some (.cells #[.map (some (w.heap.size + 1 + 1))] tVm (0, 0))
  sc : W.heap[w.heap.size + 1 + 1 + 1 + 1 + 1]? = some (.cells #[.slice none 0 0] tVl' (0, 0))
  oc : W.heap[w.heap.size + 1 + 1 + 1 + 1 + 1 + 1]? = some (.cells #[.slice none 0 0] tLL (0, 0))
  vc : W.heap[w.heap.size + 1 + 1 + 1 + 1 + 1 + 1 + 1]? = some (.cells #[(cbT (w.heap.size + 1 + 1 + 1) (w.heap.size + 1 + 1 + 1 + 1 + 1) w.heap.size (w.heap.size + 1 + 1 + 1 + 1) (w.heap.size + 1 + 1 + 1 + 1 + 1 + 1 + 1) (w.heap.size + 1 + 1 + 1 + 1 + 1 + 1))] 102 (0, 0))
theorem set_last (w : World) (o : Array Value) (t : TypeId) (v : Value) : (w.alloc (.cells o t)).setCell ⟨w.heap.size, 0, none⟩ v = w.alloc (.cells (o.setIfInBounds 0 v) t) := by
  unfold World.setCell World.alloc
  congr 1
  refine Array.ext_getElem? fun j => ?_
  rw [Array.getElem?_modify]
  by_cases hj : j = w.heap.size
  · subst hj
    simp [Array.getElem?_push]
  · rw [if_neg (Ne.symm hj)]
    simp [Array.getElem?_push, hj]
theorem laid_of (w : World) (mb : Nat) (X : World) (hX : X = (((((((w.alloc (.cells #[.map (some mb)] tG)).alloc (.map #[] 0)).alloc (.map #[] 0)).alloc (.cells #[.map (some (w.heap.size + 1))] tVm)).alloc (.cells #[.map (some (w.heap.size + 1 + 1))] tVm)).alloc (.cells #[.slice none 0 0] tVl')).alloc (.cells #[.slice none 0 0] tLL))) : X.heap.size = w.heap.size + 1 + 1 + 1 + 1 + 1 + 1 + 1 ∧ ∀ W, X.alloc (.cells #[(cbT (w.heap.size + 1 + 1 + 1) (w.heap.size + 1 + 1 + 1 + 1 + 1) w.heap.size (w.heap.size + 1 + 1 + 1 + 1) (w.heap.size + 1 + 1 + 1 + 1 + 1 + 1 + 1) (w.heap.size + 1 + 1 + 1 + 1 + 1 + 1))] 102) = W → Laid w W mb := by
  obtain ⟨X1, e1⟩ : ∃ x, w.alloc (.cells #[.map (some mb)] tG) = x := ⟨_, rfl⟩
  obtain ⟨X2, e2⟩ : ∃ x, X1.alloc (.map #[] 0) = x := ⟨_, rfl⟩
  obtain ⟨X3, e3⟩ : ∃ x, X2.alloc (.map #[] 0) = x := ⟨_, rfl⟩
  obtain ⟨X4, e4⟩ : ∃ x, X3.alloc (.cells #[.map (some (w.heap.size + 1))] tVm) = x := ⟨_, rfl⟩
  obtain ⟨X5, e5⟩ : ∃ x, X4.alloc (.cells #[.map (some (w.heap.size + 1 + 1))] tVm) = x := ⟨_, rfl⟩
  obtain ⟨X6, e6⟩ : ∃ x, X5.alloc (.cells #[.slice none 0 0] tVl') = x := ⟨_, rfl⟩
  obtain ⟨X7, e7⟩ : ∃ x, X6.alloc (.cells #[.slice none 0 0] tLL) = x := ⟨_, rfl⟩
  rw [e1, e2, e3, e4, e5, e6, e7] at hX
  subst hX
  have z1 : X1.heap.size = w.heap.size + 1 := by rw [← e1]; simp
  have z2 : X2.heap.size = w.heap.size + 1 + 1 := by rw [← e2, ← z1]; simp
  have z3 : X3.heap.size = w.heap.size + 1 + 1 + 1 := by rw [← e3, ← z2]; simp
  have z4 : X4.heap.size = w.heap.size + 1 + 1 + 1 + 1 := by rw [← e4, ← z3]; simp
  have z5 : X5.heap.size = w.heap.size + 1 + 1 + 1 + 1 + 1 := by rw [← e5, ← z4]; simp
  have z6 : X6.heap.size = w.heap.size + 1 + 1 + 1 + 1 + 1 + 1 := by rw [← e6, ← z5]; simp
  have z7 : X.heap.size = w.heap.size + 1 + 1 + 1 + 1 + 1 + 1 + 1 := by rw [← e7, ← z6]; simp
  refine ⟨z7, fun W hW => ?_⟩
  have z8 : W.heap.size = w.heap.size + 1 + 1 + 1 + 1 + 1 + 1 + 1 + 1 := by rw [← hW, ← z7]; simp
  have f1 : Fut w X1 := by rw [← e1]; exact Fut.alloc _ _
  have f2 : Fut X1 X2 := by rw [← e2]; exact Fut.alloc _ _
  have f3 : Fut X2 X3 := by rw [← e3]; exact Fut.alloc _ _
  have f4 : Fut X3 X4 := by rw [← e4]; exact Fut.alloc _ _
  have f5 : Fut X4 X5 := by rw [← e5]; exact Fut.alloc _ _
  have f6 : Fut X5 X6 := by rw [← e6]; exact Fut.alloc _ _
  have f7 : Fut X6 X := by rw [← e7]; exact Fut.alloc _ _
  have f8 : Fut X W := by rw [← hW]; exact Fut.alloc _ _
  have b0 : X1.heap[w.heap.size]? = some (.cells #[.map (some mb)] tG (0, 0)) := by rw [← e1]; exact heap_alloc_new _ _
  have m1 : MapE strV X2 (w.heap.size + 1) (encN []) := by rw [← e2, ← z1]; exact MapE.new X1
  have m2 : MapE strV X3 (w.heap.size + 1 + 1) (encN []) := by rw [← e3, ← z2]; exact MapE.new X2
  have b3 : X4.heap[w.heap.size + 1 + 1 + 1]? = some (.cells #[.map (some (w.heap.size + 1))] tVm (0, 0)) := by rw [← e4, ← z3]; exact heap_alloc_new _ _
  have b4 : X5.heap[w.heap.size + 1 + 1 + 1 + 1]? = some (.cells #[.map (some (w.heap.size + 1 + 1))] tVm (0, 0)) := by rw [← e5, ← z4]; exact heap_alloc_new _ _
  have b5 : X6.heap[w.heap.size + 1 + 1 + 1 + 1 + 1]? = some (.cells #[.slice none 0 0] tVl' (0, 0)) := by rw [← e6, ← z5]; exact heap_alloc_new _ _
  have b6 : X.heap[w.heap.size + 1 + 1 + 1 + 1 + 1 + 1]? = some (.cells #[.slice none 0 0] tLL (0, 0)) := by rw [← e7, ← z6]; exact heap_alloc_new _ _
  have b7 : W.heap[w.heap.size + 1 + 1 + 1 + 1 + 1 + 1 + 1]? = some (.cells #[(cbT (w.heap.size + 1 + 1 + 1) (w.heap.size + 1 + 1 + 1 + 1 + 1) w.heap.size (w.heap.size + 1 + 1 + 1 + 1) (w.heap.size + 1 + 1 + 1 + 1 + 1 + 1 + 1) (w.heap.size + 1 + 1 + 1 + 1 + 1 + 1))] 102 (0, 0)) := by rw [← hW, ← z7]; exact heap_alloc_new _ _
  have g7 := f7.trans f8
  have g6 := f6.trans g7
  have g5 := f5.trans g6
  have g4 := f4.trans g5
  have g3 := f3.trans g4
  have g2 := f2.trans g3
  exact ⟨f1.trans g2, z8, g2.block b0, m1.fut g3, m2.fut g4, g5.block b3, g6.block b4, g7.block b5, f8.block b6, b7⟩
theorem infoFn : (Tryz.prog.info? 102).map (·.size) = some 1 := by kernel_rfl
set_option maxHeartbeats 4000000 in
set_option maxRecDepth 100000 in
theorem parts_any {B mb : Nat} {G : Gr} (N : Nat) (T : TS) (w : World) (h : GrI B w mb G) (hb : G.length ≤ 100000000) (hT : tarjT G N = some T) :
    Calls Tryz.prog 21 #[.map (some mb)] w fun e w' => ∃ imb ov, e = .returned (.tuple #[.map (some imb), ov]) ∧ MapE strV w' imb (encN T.inn) ∧ (∀ x ∈ T.inn, x.1.size ≤ 140737488351232) ∧ OwnL 1 w.heap.size 37 (RLs (.slice none 0 0)) w' ov T.out ∧ Fut w w' := by
  obtain ⟨X, hX⟩ : ∃ X, X = (((((((w.alloc (.cells #[.map (some mb)] tG)).alloc (.map #[] 0)).alloc (.map #[] 0)).alloc (.cells #[.map (some (w.heap.size + 1))] tVm)).alloc (.cells #[.map (some (w.heap.size + 1 + 1))] tVm)).alloc (.cells #[.slice none 0 0] tVl')).alloc (.cells #[.slice none 0 0] tLL)) := ⟨_, rfl⟩
  obtain ⟨zX, hL⟩ := laid_of w mb X hX
  have hb8 := heap_alloc_new X (.cells #[.nilFunc] 102)
  have hse := set_last X #[.nilFunc] 102 (cbT (w.heap.size + 1 + 1 + 1) (w.heap.size + 1 + 1 + 1 + 1 + 1) w.heap.size (w.heap.size + 1 + 1 + 1 + 1) (w.heap.size + 1 + 1 + 1 + 1 + 1 + 1 + 1) (w.heap.size + 1 + 1 + 1 + 1 + 1 + 1))
  have hse2 : (X.alloc (.cells #[.nilFunc] 102)).setCell ⟨X.heap.size, 0, none⟩ (cbT (w.heap.size + 1 + 1 + 1) (w.heap.size + 1 + 1 + 1 + 1 + 1) w.heap.size (w.heap.size + 1 + 1 + 1 + 1) (w.heap.size + 1 + 1 + 1 + 1 + 1 + 1 + 1) (w.heap.size + 1 + 1 + 1 + 1 + 1 + 1)) = X.alloc (.cells #[(cbT (w.heap.size + 1 + 1 + 1) (w.heap.size + 1 + 1 + 1 + 1 + 1) w.heap.size (w.heap.size + 1 + 1 + 1 + 1) (w.heap.size + 1 + 1 + 1 + 1 + 1 + 1 + 1) (w.heap.size + 1 + 1 + 1 + 1 + 1 + 1))] 102) := hse
  obtain ⟨W5, hW5⟩ : ∃ W, X.alloc (.cells #[(cbT (w.heap.size + 1 + 1 + 1) (w.heap.size + 1 + 1 + 1 + 1 + 1) w.heap.size (w.heap.size + 1 + 1 + 1 + 1) (w.heap.size + 1 + 1 + 1 + 1 + 1 + 1 + 1) (w.heap.size + 1 + 1 + 1 + 1 + 1 + 1))] 102) = W := ⟨_, rfl⟩
  have HLd := Lib.hid (hL W5 hW5)
  rw [hW5, zX] at hse2
  rw [zX] at hb8
  have k1 := cell_at hb8 0 .nilFunc rfl
  have k2 := free_at hb8 0
  rw [hX] at hse2 k1 k2
  clear hse hL hb8 hW5 zX hX X
  unfold cbT at hse2
  have y0 := cell_at HLd.out.gb 0 (.map (some mb)) rfl
  have hg5 := h.fut HLd.out.f
  have HNm := Lib.hid (names_any W5 hg5 hb)
  have HT := Lib.hid hT
  have hi5 := infoFn
  have hmm := @run_makeMap Tryz.prog
  go_enter Tryz.func21, Tryz.ntmps21
  go_wp2_with (first | (refine wpList_store_1 (wanted_none rfl _) _ _ rfl rfl rfl hi5 rfl k1 k2 hse2 ?_))
  clear hse2 k1 k2 y0 hmm
  refine HNm.out.mono ?_
  rintro e w6 ⟨vn, rfl, hvn, f6⟩
  have L := HLd.out
  have hz := L.sz
  have hz6 := f6.size
  have hmbW : mb < w.heap.size := by
    obtain ⟨_, _, hm9, _⟩ := h
    exact hm9.lt
  have ml := L.lm.fut f6
  have mi := L.im.fut f6
  have nf : ∀ k : Nat, k < w.heap.size + 1 → ¬ (tfoot w6 (w.heap.size + 1 + 1 + 1 + 1 + 1) (w.heap.size + 1 + 1 + 1 + 1 + 1 + 1) (w.heap.size + 1) (w.heap.size + 1 + 1)) k := fun k hk hf => by
    rcases hf with e | e | e | e | e <;> omega
  have C : VisC w6 B mb G (w.heap.size + 1 + 1 + 1) (w.heap.size + 1 + 1 + 1 + 1 + 1) w.heap.size (w.heap.size + 1 + 1 + 1 + 1) (w.heap.size + 1 + 1 + 1 + 1 + 1 + 1 + 1) (w.heap.size + 1 + 1 + 1 + 1 + 1 + 1) (w.heap.size + 1) (w.heap.size + 1 + 1) := by
    refine ⟨hg5.fut f6, f6.block L.gb, f6.block L.vc, nf _ (by omega), ?_, nf _ (by omega), fun k arr hk hf => ?_⟩
    · rintro (e | e | e | e | e) <;> omega
    · rcases hf with e | e | e | e | e
      · exact other_block hk (f6.block L.sc) (by decide) e
      · exact other_block hk (f6.block L.oc) (by decide) e
      · exact map_ne ml hk e.symm
      · exact map_ne mi hk e.symm
      · have := (Array.getElem?_eq_some_iff.1 hk).1
        omega
  have T0 : TSt w6.heap.size w6 (w.heap.size + 1 + 1 + 1) (w.heap.size + 1 + 1 + 1 + 1 + 1) (w.heap.size + 1 + 1 + 1 + 1) (w.heap.size + 1 + 1 + 1 + 1 + 1 + 1) (w.heap.size + 1) (w.heap.size + 1 + 1) ⟨[], [], [], []⟩ (.slice none 0 0) (.slice none 0 0) :=
    ⟨f6.block L.lc, ml, f6.block L.ic, mi, f6.block L.sc, OwnL.nil, f6.block L.oc, OwnL.nil, fun k hk => (by cases hk), fun x hx => (by cases hx), fun x hx => (by cases hx), fun x hx => (by cases hx), by omega, by omega⟩
  obtain ⟨Av, cv, rfl, hvl, hvc⟩ := hvn.rep.form
  have hF6 := Lib.hid (L.f.trans f6)
  have hns := Lib.hid hvn
  have hsz5 := Lib.hid hz
  have hGs := Lib.hid (show ∀ x ∈ G.sorted, x.size ≤ 140737488351232 from fun x hx => h.sizes x (((sortU_spec totS _).2 x).1 hx))
  have HC := Lib.hid C
  have HT0 := Lib.hid T0
  have hvl0 : G.sorted.length ≤ 9223372036854775807 := by unfold maxLen at hvc; omega
  unfold tarjT at HT
  obtain ⟨Nl, hNl⟩ : ∃ x, G.sorted = x := ⟨_, rfl⟩
  rw [hNl] at HT hns hGs hvl0 ⊢
  clear C T0 ml mi nf L hvn f6 hmbW hz hz6 hg5 HLd HNm hNl hvl hvc h
  go_wp2_with fail
  go_loopw [19] (fun i wr => ∃ (k : Nat) (Tk : TS), k ≤ Nl.length ∧ i = .int .i64 k ∧ Hid ((Nl.take k).foldl (stepJ G N) (some ⟨[], [], [], []⟩) = some Tk) ∧ Hid (Only (tfoot w6 (w.heap.size + 1 + 1 + 1 + 1 + 1) (w.heap.size + 1 + 1 + 1 + 1 + 1 + 1) (w.heap.size + 1) (w.heap.size + 1 + 1)) w6 wr) ∧ Hid (∃ sv ov, TSt w6.heap.size wr (w.heap.size + 1 + 1 + 1) (w.heap.size + 1 + 1 + 1 + 1 + 1) (w.heap.size + 1 + 1 + 1 + 1) (w.heap.size + 1 + 1 + 1 + 1 + 1 + 1) (w.heap.size + 1) (w.heap.size + 1 + 1) Tk sv ov)) (fun i _ => Nl.length - (intOf i).toNat)
  case atStart => exact ⟨0, _, Nat.zero_le _, rfl, Lib.hid rfl, Lib.hid (Only.refl _), Lib.hid ⟨_, _, HT0.out⟩⟩
  case round =>
    obtain ⟨k, Tk, hk, rfl, hK, hO, hTk⟩ := hrel
    by_cases hlt : k < Nl.length
    · have hltI : (k : Int) < Nl.length := by omega
      have e0 : (0 : Int) ≤ k ∧ (k : Int) < Nl.length := by omega
      obtain ⟨b', off, rfl, z0⟩ := nm_at hns.out.rep hlt
      obtain ⟨sv1, ov1, t1⟩ := hTk.out
      have z1 := hO.out.cell z0 (by
        obtain ⟨arr, hty⟩ := hns.out.typed b' rfl
        exact HC.out.ns b' arr hty)
      have hnx := Lib.hid (show (Nl.take (k + 1)).foldl (stepJ G N) (some ⟨[], [], [], []⟩) = stepJ G N (some Tk) Nl[k] by rw [List.take_succ_eq_append_getElem hlt, List.foldl_append, hK.out]; rfl)
      obtain ⟨Tn, hnext⟩ := foldJ_some HT.out (k + 1)
      have hst := hnx.out.symm.trans hnext
      have htz := hGs.out _ (List.getElem_mem hlt)
      generalize Nl[k] = t at *
      have l1 := (look_num t1.innm t1.inns htz).1
      have p1 := cell_at t1.innc 0 (.map (some (w.heap.size + 1 + 1))) rfl
      unfold stepJ at hst
      dsimp only at hst
      cases hi1 : lkN Tk.inn t with
      | some q =>
        rw [hi1] at l1 hst
        simp only [Option.some.injEq] at hst
        subst hst
        have HN := Lib.hid hnext
        clear hnext hi1 z0 htz t1 hnx
        go_wp2
        go_roundw
        case rel => exact ⟨k + 1, Tk, by omega, by go_num, HN, hO, hTk⟩
        case measure => simp [intOf] <;> omega
      | none =>
        rw [hi1] at l1 hst
        dsimp only at hst
        cases hvv : visitT G N Tk t with
        | none => rw [hvv] at hst; cases hst
        | some r =>
          obtain ⟨Tr, kr⟩ := r
          rw [hvv] at hst
          simp only [Option.map_some, Option.some.injEq] at hst
          subst hst
          have HN := Lib.hid hnext
          have HI := Lib.hid (visit_any HC.out N Tk t Tr kr hvv wr sv1 ov1 hO.out t1 htz)
          have p3 := cell_at (hO.out.keeps HC.out.vc HC.out.nv) 0 (cbT (w.heap.size + 1 + 1 + 1) (w.heap.size + 1 + 1 + 1 + 1 + 1) w.heap.size (w.heap.size + 1 + 1 + 1 + 1) (w.heap.size + 1 + 1 + 1 + 1 + 1 + 1 + 1) (w.heap.size + 1 + 1 + 1 + 1 + 1 + 1)) rfl
          unfold cbT at p3
          clear hnext hi1 hvv z0 htz t1 hnx
          go_wp2_with fail
          refine HI.out.mono ?_
          rintro e w7 ⟨rfl, hO7, hT7⟩
          replace hO7 := Lib.hid hO7
          replace hT7 := Lib.hid hT7
          clear HI
          go_wp2
          go_roundw
          case rel => exact ⟨k + 1, Tr, by omega, by go_num, HN, hO7, hT7⟩
          case measure => simp [intOf] <;> omega
    · obtain rfl : k = Nl.length := by omega
      have hE := hK.out
      rw [List.take_length, HT.out] at hE
      simp only [Option.some.injEq] at hE
      subst hE
      obtain ⟨sv1, ov1, t1⟩ := hTk.out
      have p1 := cell_at t1.innc 0 (.map (some (w.heap.size + 1 + 1))) rfl
      have p2 := cell_at t1.outc 0 ov1 rfl
      have OW : Only (fun k => w.heap.size ≤ k) w wr := (Only.fut hF6.out).trans (hO.out.mono fun k _ hk => by
        have := hF6.out.size
        rcases hk with e | e | e | e | e <;> omega)
      have HFin := Lib.hid (show Fut w wr ∧ TSt w6.heap.size wr (w.heap.size + 1 + 1 + 1) (w.heap.size + 1 + 1 + 1 + 1 + 1) (w.heap.size + 1 + 1 + 1 + 1) (w.heap.size + 1 + 1 + 1 + 1 + 1 + 1) (w.heap.size + 1) (w.heap.size + 1 + 1) T sv1 ov1 from ⟨OW.toFut fun k hk => hk, t1⟩)
      clear hK hO hTk t1 OW HT
      go_wp2_with fail
      refine wp_graph 4 [.d, .d, .d, .d] (by kernel_rfl) (by kernel_rfl) (by kernel_rfl) ?_
      simp only [List.take_succ_cons, List.take_zero, List.drop_succ_cons, List.drop_zero, Exs]
      iterate 4 apply Exists.intro
      apply Run.valG (wanted_none rfl _)
      · intro w1 h1 hk
        have q1 := h1.cell p1; have q2 := h1.cell p2
        have hcw := fun b o => Below.cell (p := ⟨b, o, none⟩) h1
        go_simp; rfl
      simp only [Act.put, List.setIfInBounds_toArray, List.set_cons_succ, List.set_cons_zero, List.nil_append, List.cons_append]
      apply Run.valG (wanted_none rfl _)
      · intro w1 h1 hk
        have q1 := h1.cell p1; have q2 := h1.cell p2
        have hcw := fun b o => Below.cell (p := ⟨b, o, none⟩) h1
        go_simp; rfl
      simp only [Act.put, List.setIfInBounds_toArray, List.set_cons_succ, List.set_cons_zero, List.nil_append, List.cons_append]
      apply Run.valG (wanted_none rfl _)
      · intro w1 h1 hk
        have q1 := h1.cell p1; have q2 := h1.cell p2
        have hcw := fun b o => Below.cell (p := ⟨b, o, none⟩) h1
        go_simp; rfl
      simp only [Act.put, List.setIfInBounds_toArray, List.set_cons_succ, List.set_cons_zero, List.nil_append, List.cons_append]
      apply Run.valG (wanted_none rfl _)
      · intro w1 h1 hk
        have q1 := h1.cell p1; have q2 := h1.cell p2
        have hcw := fun b o => Below.cell (p := ⟨b, o, none⟩) h1
        go_simp; rfl
      simp only [Act.put, List.setIfInBounds_toArray, List.set_cons_succ, List.set_cons_zero, List.nil_append, List.cons_append]
      apply Run.done
      intro w2 h2 hk
      clear hk
      have F3 := (Fut.drew _).trans h2
      clear h2 p1 p2
      go_wp2
      (try simp only [Exit.inBlock, Exit.then])
      refine bodyPost_ret (v := .tuple #[.map (some (w.heap.size + 1 + 1)), ov1]) (by simp [results, Tryz.results21, go_sem]) rfl ?_
      have t1 := HFin.out.2.fut F3
      exact ⟨_, _, rfl, t1.innm, t1.inns, (t1.out.base (Nat.le_trans hF6.out.size (Nat.le_refl _))).imp fun cs x hx => by
        obtain ⟨v, g1, g2, g3⟩ := hx
        exact ⟨v, g1, g2, fun k _ e => by cases e⟩, HFin.out.1.trans F3⟩
end Go.Proofs.YtackadhamghblaaGreat
/-
  The rule of XGraph for drawing regions in which some operations turn memory. Printed by gon.py.
-/
namespace Go.Proofs.YtackadhamghblaaGreat.On
open Go.RowKit
set_option linter.unusedSimpArgs false
set_option linter.unusedVariables false

def jB (jm : Nat) (js : Tmp) (ops : Array Oper) (n : Nat) : Bool :=
  decide (jm < n) && (match ops[jm]? with | none => false | some o => decide (js ∈ o.looksAt ops)) && (List.range n).all fun k => dstAt ops k != some js || decide (k < jm)
theorem jB_spec {jm : Nat} {js : Tmp} {ops : Array Oper} {n : Nat} (h : jB jm js ops n = true) : jm < n ∧ (∀ o, ops[jm]? = some o → js ∈ o.looksAt ops) ∧ ∀ k, k < n → dstAt ops k = some js → k < jm := by
  simp only [jB, Bool.and_eq_true, decide_eq_true_eq, List.all_eq_true, List.mem_range] at h
  obtain ⟨⟨h1, h2⟩, h3⟩ := h
  refine ⟨h1, fun o ho => ?_, fun k hk hd => ?_⟩
  · rw [ho] at h2
    simpa using h2
  · have := h3 k hk
    simpa [hd] using this
/-- G: what any operation may do; H i: what the others do, while operation i has not been carried out; A i: behind it; D i j: i waits for j. J: what holds of the value in slot js behind operation jm. -/
class Mut where
  H : Nat → World → World → Prop
  A : Nat → World → World → Prop
  G : World → World → Prop
  D : Nat → Nat → Bool
  afut : ∀ {i : Nat} {a b : World}, Fut a b → A i a b
  hfut : ∀ {i : Nat} {a b : World}, Fut a b → H i a b
  htrans : ∀ {i : Nat} {a b c : World}, H i a b → H i b c → H i a c
  gfut : ∀ {a b : World}, Fut a b → G a b
  gtrans : ∀ {a b c : World}, G a b → G b c → G a c
  jm : Nat
  js : Tmp
  J : Value → World → Prop
  jkeep : ∀ {x : Value} {a b : World}, A jm a b → J x a → J x b
variable [Mut]
def G (w w' : World) : Prop := Mut.G w w'
theorem G.refl (w : World) : G w w := Mut.gfut (Fut.refl w)
theorem G.trans {a b c : World} (h : G a b) (k : G b c) : G a c := Mut.gtrans h k
def Eff (i : Nat) (w w' : World) : Prop := ((∀ j, j ≠ i → Mut.D i j = false → Mut.H j w w') ∧ ∀ j, j ≠ i → Mut.D j i = false → Mut.A j w w') ∧ G w w'
theorem Eff.of_fut {i : Nat} {w w' : World} (h : Fut w w') : Eff i w w' := ⟨⟨fun _ _ _ => Mut.hfut h, fun _ _ _ => Mut.afut h⟩, Mut.gfut h⟩
def EffJ (i : Nat) (x : Value) (w w' : World) : Prop := Eff i w w' ∧ (i = Mut.jm → Mut.J x w')
theorem Eff.refl (i : Nat) (w : World) : Eff i w w := Eff.of_fut (Fut.refl w)
/-- Of operation i no J is asked. -/
def NoJ (i : Nat) : Prop := i ≠ Mut.jm ∨ ∀ x w, Mut.J x w
theorem Eff.j {i : Nat} {x : Value} {w w' : World} (h : Eff i w w') (hj : NoJ i) : EffJ i x w w' := ⟨h, fun e => hj.elim (fun n => absurd e n) fun k => k x w'⟩

def Mono (i : Nat) : Sp → Prop
  | .det _ => True
  | .rel S => ∀ v w w', Mut.A i w w' → S v w → S v w'
theorem holds_mono {i : Nat} {s : Sp} (h : Mono i s) {v : Value} {w w' : World} (hf : Mut.A i w w') (hs : s.holds v w) : s.holds v w' := by
  cases s with
  | det c => exact hs
  | rel S => exact h v w w' hf hs

def givesUpon (i : Nat) (x : Value) (P : Program) (s : Sp) (w : World) : Result Next → Prop
  | .ok (.value v) w' => EffJ i x w w' ∧ s.holds v w'
  | .ok .skip w' => EffJ i x w w' ∧ s.holds undef w'
  | .ok (.enter f args) w' => Calls P f args w' (fun e w'' => ∃ v, e = .returned v ∧ EffJ i x w w'' ∧ s.holds v w'')
  | _ => False
def gives (i : Nat) (P : Program) (o : Oper) (a : Act) (s : Sp) (w : World) : Prop := givesUpon i (a.tmps.getD Mut.js undef) P s w ((execOp a.eval o).run P w)
def givesG (i : Nat) (P : Program) (ops : Array Oper) (o : Oper) (a : Act) (s : Sp) (w : World) : Prop :=
  if Region.wanted o (yielded ops a.tmps) = true then gives i P o a s w else EffJ i (a.tmps.getD Mut.js undef) w w ∧ s.holds undef w

def Obl (P : Program) (ops : Array Oper) (w0 : World) (a0 : Act) (K : Act → World → Prop) : List Oper → List (Option Tmp × Sp) → Prop
  | [], acc => ∀ w, G w0 w → lexFin w (fun a => Mut.J (a.tmps.getD Mut.js undef) w → K a w) acc a0
  | o :: r, acc => ∃ s : Sp, Mono acc.length s ∧ (∀ w, Mut.H acc.length w0 w → lexAct o w (fun a => givesG acc.length P ops o a s w) 0 acc a0) ∧ Obl P ops w0 a0 K r (acc ++ [(o.dst, s)])

structure GInv (ops : Array Oper) (n : Nat) (sp : Nat → Sp) (a0 : Act) (w0 : World) (vs : Nat → Value) (listed : Array Bool) (a : Act) (w : World) : Prop where
  size : a.tmps.size = a0.tmps.size
  defers : a.defers = a0.defers
  fut : G w0 w
  free : ∀ t, (∀ k, k < n → listed.getD k false = true → dstAt ops k ≠ some t) → a.tmps[t]? = a0.tmps[t]?
  held : ∀ k, k < n → listed.getD k false = true → (sp k).holds (vs k) w
  slot : ∀ k d, k < n → listed.getD k false = true → dstAt ops k = some d → a.tmps[d]? = some (vs k)
  lsize : listed.size = ops.size
  closed : ∀ j oj, ops[j]? = some oj → listed.getD j false = true → ∀ e ∈ oj.after, Region.binds .any e = true → listed.getD e.on false = true
  tail : ∀ t, n ≤ t → t < ops.size → listed.getD t true = false
  hist : ∀ i, listed.getD i false = false → Mut.H i w0 w
  jj : listed.getD Mut.jm false = true → Mut.J (a.tmps.getD Mut.js undef) w

/-- The obligations, one by one. -/
theorem Obl_split {P : Program} {ops : Array Oper} {w0 : World} {a0 : Act} {K : Act → World → Prop} : ∀ (l : List Oper) (acc : List (Option Tmp × Sp)), Obl P ops w0 a0 K l acc →
    ∃ full : List (Option Tmp × Sp), full.length = acc.length + l.length ∧ full.take acc.length = acc ∧
      (∀ j o, l[j]? = some o → ∃ s, full[acc.length + j]? = some (o.dst, s) ∧ Mono (acc.length + j) s ∧ ∀ w, Mut.H (acc.length + j) w0 w → lexAct o w (fun a => givesG (acc.length + j) P ops o a s w) 0 (full.take (acc.length + j)) a0) ∧
      (∀ w, G w0 w → lexFin w (fun a => Mut.J (a.tmps.getD Mut.js undef) w → K a w) full a0)
  | [], acc, h => ⟨acc, by simp, by simp, fun j o hj => by simp at hj, h⟩
  | o :: r, acc, h => by
    obtain ⟨s, hm, h1, h2⟩ := h
    obtain ⟨full, hl, ht, hall, hfin⟩ := Obl_split r _ h2
    have hlen : (acc ++ [(o.dst, s)]).length = acc.length + 1 := by simp
    rw [hlen] at hl ht hall
    have ht' : full.take acc.length = acc := by
      have := congrArg (List.take acc.length) ht
      simpa [List.take_take, Nat.min_eq_left (Nat.le_succ _)] using this
    refine ⟨full, by simp only [List.length_cons]; omega, ht', fun j o' hj => ?_, hfin⟩
    cases j with
    | zero =>
      simp only [List.getElem?_cons_zero, Option.some.injEq] at hj
      subst hj
      refine ⟨s, ?_, hm, fun w hw => by rw [Nat.add_zero] at hw ⊢; rw [ht']; exact h1 w hw⟩
      have := congrArg (fun x => x[acc.length]?) ht
      simpa [List.getElem?_take] using this
    | succ j =>
      have := hall j o' (by simpa using hj)
      rwa [show acc.length + 1 + j = acc.length + (j + 1) by omega] at this

section
variable {P : Program} {ops : Array Oper} {n : Nat} {sp : Nat → Sp} {a0 : Act} {w0 : World} {vs : Nat → Value} {listed : Array Bool} {a : Act} {w : World}

theorem GInv.step {full : List (Option Tmp × Sp)} {i : Nat} {Q : Exit → Act → World → Prop} {K : Act → World → Prop} (inv : GInv ops n sp a0 w0 vs listed a w) (hB : graphB ops n = true)
    (hbd : ∀ k d, dstAt ops k = some d → k < n → d < a0.tmps.size) (hjB : jB Mut.jm Mut.js ops n = true ∨ ∀ x w, Mut.J x w) (hDB : ∀ i j o, ops[i]? = some o → Mut.D i j = true → dep o j = true)
    (hsp : ∀ k, k < n → full[k]? = some (dstAt ops k, sp k)) (_hfl : full.length = n) (hmono : ∀ k, k < n → Mono k (sp k))
    (hob : ∀ o, ops[i]? = some o → ∀ w, Mut.H i w0 w → lexAct o w (fun a => givesG i P ops o a (sp i) w) 0 (full.take i) a0)
    (hi : i ∈ Region.ready .any ops listed) (hin : i < n)
    (hK : ∀ v a' w', GInv ops n sp a0 w0 (fun k => if k = i then v else vs k) (listed.setIfInBounds i true) a' w' → K a' w') : wpOp P ops Q i K a w := by
  obtain ⟨hsel, hns, hg⟩ := graphB_spec hB
  obtain ⟨hun, o, ho, hall⟩ := mem_ready.1 hi
  obtain ⟨o', ho', hedge, hdist, hlook⟩ := hg i hin
  obtain rfl : o = o' := Option.some.inj (ho.symm.trans ho')
  have hunf : listed.getD i false = false := getD_both hun
  have hdep : ∀ k, dep o k = true → listed.getD k false = true := fun k hk => by
    obtain ⟨e, he, hb, rfl⟩ := dep_spec hk
    exact hall e he hb
  have hlex := lexAct_inst vs _ 0 a0 (hob o ho w (inv.hist i hunf)) fun j d S hj hd => by
    rw [Nat.zero_add] at hd ⊢
    rw [List.getElem?_take] at hj
    split at hj
    · rename_i hji
      have h1 := hsp j (by omega)
      rw [hj] at h1
      simp only [Option.some.injEq, Prod.mk.injEq] at h1
      have := inv.held j (by omega) (hdep j hd)
      rw [← h1.2] at this
      exact this
    · cases hj
  have hslot : ∀ t ∈ o.looksAt ops, a.tmps[t]? = (putAll vs 0 (full.take i) a0).tmps[t]? := fun t ht => by
    by_cases hex : ∃ k, k < i ∧ dstAt ops k = some t
    · obtain ⟨k, hki, hkd⟩ := hex
      have hkn : k < n := by omega
      have hkl := hdep k ((hlook t ht k hkn hkd).1 hki)
      have h1 : (full.take i)[k]? = some (some t, sp k) := by rw [List.getElem?_take, if_pos hki, hsp k hkn, hkd]
      rw [inv.slot k t hkn hkl hkd, putAll_at vs t _ 0 a0 k (sp k) (hbd k t hkd hkn) h1, Nat.zero_add]
      · have h2 := inv.held k hkn hkl
        cases hs : sp k with
        | det c => rw [hs] at h2; simp only [Sp.holds] at h2; rw [h2]; rfl
        | rel S => rfl
      · intro j d s' hj hd
        rw [List.getElem?_take] at hj
        split at hj
        · rename_i hji
          rw [hsp j (by omega)] at hj
          simp only [Option.some.injEq, Prod.mk.injEq] at hj
          have hjd : dstAt ops j = some t := hj.1.trans hd
          rcases Nat.lt_trichotomy j k with h' | h' | h'
          · obtain ⟨ok, hok, _, hd2, _⟩ := hg k hkn
            exact absurd hjd (hd2 t (by simpa [dstAt, hok] using hkd) j h')
          · exact h'
          · obtain ⟨oj, hoj, _, hd2, _⟩ := hg j (by omega)
            exact absurd hkd (hd2 t (by simpa [dstAt, hoj] using hjd) k h')
        · cases hj
    · rw [putAll_other]
      · refine inv.free t fun k hkn hkl hkd => ?_
        rcases Nat.lt_trichotomy k i with h' | h' | h'
        · exact hex ⟨k, h', hkd⟩
        · subst h'; rw [hunf] at hkl; cases hkl
        · obtain ⟨ok, hok, hdk⟩ := (hlook t ht k hkn hkd).2 h'
          obtain ⟨e, he, hb, hei⟩ := dep_spec hdk
          have := inv.closed k ok hok hkl e he hb
          rw [hei, hunf] at this
          cases this
      · intro d s hm hd
        obtain ⟨j, hj⟩ := List.getElem?_of_mem hm
        rw [List.getElem?_take] at hj
        split at hj
        · rename_i hji
          rw [hsp j (by omega)] at hj
          simp only [Option.some.injEq, Prod.mk.injEq] at hj
          exact hex ⟨j, hji, hj.1.trans hd⟩
        · cases hj
  have hexec : execOp a.eval o = execOp (putAll vs 0 (full.take i) a0).eval o := execOp_congr o (fun cs b => Region.noSelect_spec hsel i o cs b ho) fun x hx => by
    cases x with
    | tmp t =>
      have := hslot t (List.mem_append_left _ (List.mem_filterMap.2 ⟨.tmp t, by simpa using hx, rfl⟩))
      simp only [Act.eval, Array.getD_eq_getD_getElem?, this]
    | _ => rfl
  have hwant : Region.wanted o (yielded ops a.tmps) = Region.wanted o (yielded ops (putAll vs 0 (full.take i) a0).tmps) := by
    unfold Region.wanted
    cases hgd : o.guard with
    | none => rfl
    | some gw =>
      obtain ⟨g, want⟩ := gw
      have hy : yielded ops a.tmps g = yielded ops (putAll vs 0 (full.take i) a0).tmps g := by
        unfold yielded
        cases ht : (ops[g]?).bind (·.dst) with
        | none => rfl
        | some t =>
          have := hslot t (by simp [Oper.looksAt, hgd, ht])
          simp only [Option.bind_some, this]
      simp only [hy]
  have hdi : dstAt ops i = o.dst := by simp [dstAt, ho]
  have hnW : ∀ k, listed.getD k false = true → Mut.D k i = false := fun k hl => by
    cases hd : Mut.D k i with
    | false => rfl
    | true =>
      have hks : k < ops.size := by
        rw [← inv.lsize]
        rcases Nat.lt_or_ge k listed.size with h' | h'
        · exact h'
        · rw [Array.getD_eq_getD_getElem?, Array.getElem?_eq_none h'] at hl; cases hl
      obtain ⟨e, he, hb, hei⟩ := dep_spec (hDB k i _ (Array.getElem?_eq_getElem hks) hd)
      have := inv.closed k _ (Array.getElem?_eq_getElem hks) hl e he hb
      rw [hei, hunf] at this
      cases this
  have hnew : ∀ v w', EffJ i ((putAll vs 0 (full.take i) a0).tmps.getD Mut.js undef) w w' → (sp i).holds v w' → GInv ops n sp a0 w0 (fun k => if k = i then v else vs k) (listed.setIfInBounds i true) (a.put o.dst v) w' := fun v w' hf hv => by
    have hil : i < listed.size := by rw [inv.lsize]; omega
    have hset : ∀ k, k ≠ i → (listed.setIfInBounds i true).getD k false = listed.getD k false := fun k hk => getD_set_ne false (Ne.symm hk)
    refine ⟨by rw [put_size]; exact inv.size, by rw [put_defers']; exact inv.defers, inv.fut.trans hf.1.2, fun t ht => ?_, fun k hk hl => ?_, fun k d hk hl hd => ?_, by simp [inv.lsize], fun j oj hj hl e he hb => ?_, fun t ht ht' => by rw [getD_set_ne true (by omega)]; exact inv.tail t ht ht', fun j hj => ?_, fun hj => ?_⟩
    · have hit : o.dst ≠ some t := by rw [← hdi]; exact ht i hin (by simp [hil])
      rw [put_other _ _ _ _ hit]
      refine inv.free t fun k hk hl => ht k hk ?_
      by_cases hki : k = i
      · subst hki; simp [hil]
      · rw [hset k hki]; exact hl
    · by_cases hki : k = i
      · subst hki; simpa using hv
      · simp only [hki, if_false]
        rw [hset k hki] at hl
        exact holds_mono (hmono k hk) (hf.1.1.2 k hki (hnW k hl)) (inv.held k hk hl)
    · by_cases hki : k = i
      · subst hki
        have hod : o.dst = some d := by rw [← hdi]; exact hd
        rw [hod]
        show _ = some (if k = k then v else vs k)
        rw [if_pos rfl]
        exact put_same _ _ _ (by rw [inv.size]; exact hbd k d hd hk)
      · simp only [hki, if_false]
        rw [hset k hki] at hl
        rw [put_other]
        · exact inv.slot k d hk hl hd
        · intro hod
          have hid : dstAt ops i = some d := hdi.trans hod
          rcases Nat.lt_or_ge k i with h' | h'
          · exact hdist d hod k h' hd
          · obtain ⟨ok, hok, _, hd2, _⟩ := hg k hk
            exact hd2 d (by simpa [dstAt, hok] using hd) i (by omega) hid
    · by_cases hij : i = j
      · subst hij
        have : oj = o := Option.some.inj (hj.symm.trans ho)
        subst this
        exact getD_set_true (hall e he hb)
      · rw [getD_set_ne false hij] at hl
        exact getD_set_true (inv.closed j oj hj hl e he hb)
    · have hji : j ≠ i := fun e => by subst e; simp [hil] at hj
      rw [hset j hji] at hj
      exact Mut.htrans (inv.hist j hj) (hf.1.1.1 j hji (by
        cases hd : Mut.D i j with
        | false => rfl
        | true => have := hdep j (hDB i j o ho hd); rw [hj] at this; cases this))
    · rcases hjB with hjB | hjB
      · obtain ⟨j1, j2, j3⟩ := jB_spec hjB
        by_cases hji : i = Mut.jm
        · have hjs : o.dst ≠ some Mut.js := fun e => by have := j3 i hin (hdi.trans e); omega
          have hsl := hslot Mut.js (j2 o (by rw [← hji]; exact ho))
          have h7 := hf.2 hji
          rw [Array.getD_eq_getD_getElem?] at h7 ⊢
          rw [put_other _ _ _ _ hjs, hsl]
          exact h7
        · rw [hset _ (Ne.symm hji)] at hj
          have hjs : o.dst ≠ some Mut.js := fun e => by
            have hlt := j3 i hin (hdi.trans e)
            obtain ⟨oj, hoj, _, _, hl5⟩ := hg Mut.jm j1
            obtain ⟨e', he', hb', hei⟩ := dep_spec ((hl5 Mut.js (j2 oj hoj) i hin (hdi.trans e)).1 hlt)
            have := inv.closed Mut.jm oj hoj hj e' he' hb'
            rw [hei, hunf] at this
            cases this
          have h7 := inv.jj hj
          rw [Array.getD_eq_getD_getElem?] at h7 ⊢
          rw [put_other _ _ _ _ hjs]
          exact Mut.jkeep (hf.1.1.2 _ (Ne.symm hji) (hnW _ hj)) h7
      · exact hjB _ _
  unfold wpOp
  simp only [ho]
  unfold givesG at hlex
  rw [← hwant] at hlex
  split
  · rename_i hw
    rw [if_pos hw] at hlex
    refine .inl ?_
    unfold gives at hlex
    rw [← hexec] at hlex
    unfold Oper.wp
    generalize (execOp a.eval o).run P w = r at hlex ⊢
    cases r with
    | ok nx w' =>
      cases nx <;> simp only [givesUpon] at hlex <;> simp only [Oper.upon]
      case value u => exact hK u _ _ (hnew u w' hlex.1 hlex.2)
      case skip => exact hK undef _ _ (hnew undef w' hlex.1 hlex.2)
      case enter f args =>
        refine Calls.mono hlex fun e w'' he => ?_
        obtain ⟨v, rfl, hf, hv⟩ := he
        exact hK v _ _ (hnew v w'' hf hv)
    | halt x w' => simp only [givesUpon] at hlex
  · rename_i hw
    rw [if_neg hw] at hlex
    exact hK undef _ _ (hnew undef w hlex.1 hlex.2)
end

theorem wp_region_graph {P : Program} {id : Nat} {Q : Exit → Act → World → Prop} {a0 : Act} {w : World} {l : List Oper} (n : Nat) (hm : P.follows .mixedOrders = true)
    (hB : (graphB l.toArray n && tailB l.toArray n) = true) (hsz : ((List.range n).all fun k => match dstAt l.toArray k with | some d => decide (d < a0.tmps.size) | none => true) = true) (hjB : jB Mut.jm Mut.js l.toArray n = true ∨ ∀ x w, Mut.J x w) (hDB : ∀ i j o, l.toArray[i]? = some o → Mut.D i j = true → dep o j = true)
    (h : Obl P l.toArray w.drew a0 (wpList P l.toArray Q (l.drop n)) (l.take n) []) : (Code.region id l.toArray true).wp P Q a0 w := by
  simp only [Bool.and_eq_true, tailB] at hB
  obtain ⟨hG, hS, hseq⟩ := hB
  obtain ⟨hsel, hns, hg⟩ := graphB_spec hG
  have hnl : n ≤ l.length := by simpa using hns
  have hbd : ∀ k d, dstAt l.toArray k = some d → k < n → d < a0.tmps.size := fun k d hd hk => by
    have := List.all_eq_true.1 hsz k (List.mem_range.2 hk)
    simpa [hd] using this
  obtain ⟨full, hfl, _, hob, hfin⟩ := Obl_split _ _ h
  simp only [List.length_nil, Nat.zero_add] at hfl hob
  have htl : (l.take n).length = n := by simp; omega
  rw [htl] at hfl
  -- the specifications
  obtain ⟨sp, hsp⟩ : ∃ sp : Nat → Sp, ∀ k, sp k = ((full[k]?).map (·.2)).getD (.det undef) := ⟨_, fun _ => rfl⟩
  have hfull : ∀ k, k < n → ∃ o, l[k]? = some o ∧ full[k]? = some (dstAt l.toArray k, sp k) ∧ Mono k (sp k) ∧
      ∀ w', Mut.H k w.drew w' → lexAct o w' (fun a => givesG k P l.toArray o a (sp k) w') 0 (full.take k) a0 := fun k hk => by
    have hlk : l[k]? = some (l[k]'(by omega)) := List.getElem?_eq_getElem (by omega)
    obtain ⟨s, hs, hmono, hlex⟩ := hob k _ (by rw [List.getElem?_take, if_pos hk]; exact hlk)
    have hspk : sp k = s := by rw [hsp, hs]; rfl
    refine ⟨_, hlk, ?_, by rw [hspk]; exact hmono, by rw [hspk]; exact hlex⟩
    rw [hs, hspk]
    simp [dstAt, hlk]
  refine wp_region_any hm ?_
  have main : ∀ (f : Nat) (listed : Array Bool) (a : Act) (w' : World) (vs : Nat → Value), GInv l.toArray n sp a0 w.drew vs listed a w' → unl listed n = f →
      wpAny P .any l.toArray Q (f + (l.length - n)) listed a w' := by
    intro f
    induction f with
    | zero =>
      intro listed a w' vs inv hf
      rw [Nat.zero_add]
      have hlisted : listed = headDone n l.length := by
        refine Array.ext_getElem? fun t => ?_
        by_cases ht : t < l.length
        · have hts : t < listed.size := by rw [inv.lsize]; simpa using ht
          have h2 : (headDone n l.length)[t]? = some (decide (t < n)) := by simp [headDone, ht]
          rw [h2, Array.getElem?_eq_getElem hts]
          by_cases htn : t < n
          · have := unl_zero n hf t htn
            simp [hts] at this
            simp [htn, this]
          · have := inv.tail t (by omega) (by simpa using ht)
            simp [hts] at this
            simp [htn, this]
        · rw [Array.getElem?_eq_none (by rw [inv.lsize]; simp; omega), Array.getElem?_eq_none (by simp [headDone]; omega)]
      have hlast := lexFin_inst (K := fun a => Mut.J (a.tmps.getD Mut.js undef) w' → wpList P l.toArray Q (l.drop n) a w') vs full 0 a0 (hfin w' inv.fut) fun j d S hj => by
        rw [Nat.zero_add]
        have hjn : j < n := by rw [← hfl]; exact (List.getElem?_eq_some_iff.1 hj).1
        obtain ⟨_, _, h1, _, _⟩ := hfull j hjn
        rw [hj] at h1
        simp only [Option.some.injEq, Prod.mk.injEq] at h1
        have := inv.held j hjn (unl_zero n hf j hjn)
        rw [← h1.2] at this
        exact this
      have hact : a = putAll vs 0 full a0 := by
        refine act_ext (fun t => ?_) ?_
        · by_cases hex : ∃ k, k < n ∧ dstAt l.toArray k = some t
          · obtain ⟨k, hk, hkd⟩ := hex
            obtain ⟨_, _, h1, _, _⟩ := hfull k hk
            rw [hkd] at h1
            rw [inv.slot k t hk (unl_zero n hf k hk) hkd, putAll_at vs t full 0 a0 k (sp k) (hbd k t hkd hk) h1, Nat.zero_add]
            · have h2 := inv.held k hk (unl_zero n hf k hk)
              cases hs : sp k with
              | det c => rw [hs] at h2; simp only [Sp.holds] at h2; rw [h2]; rfl
              | rel S => rfl
            · intro j d s' hj hd
              have hjn : j < n := by rw [← hfl]; exact (List.getElem?_eq_some_iff.1 hj).1
              obtain ⟨_, _, h3, _, _⟩ := hfull j hjn
              rw [hj] at h3
              simp only [Option.some.injEq, Prod.mk.injEq] at h3
              have hjd : dstAt l.toArray j = some t := h3.1.symm.trans hd
              rcases Nat.lt_trichotomy j k with h' | h' | h'
              · obtain ⟨ok, hok, _, hd2, _⟩ := hg k hk
                exact absurd hjd (hd2 t (by simpa [dstAt, hok] using hkd) j h')
              · exact h'
              · obtain ⟨oj, hoj, _, hd2, _⟩ := hg j hjn
                exact absurd hkd (hd2 t (by simpa [dstAt, hoj] using hjd) k h')
          · rw [inv.free t fun k hk _ hd => hex ⟨k, hk, hd⟩, putAll_other]
            intro d s hmem hd
            obtain ⟨j, hj⟩ := List.getElem?_of_mem hmem
            have hjn : j < n := by rw [← hfl]; exact (List.getElem?_eq_some_iff.1 hj).1
            obtain ⟨_, _, h3, _, _⟩ := hfull j hjn
            rw [hj] at h3
            simp only [Option.some.injEq, Prod.mk.injEq] at h3
            exact hex ⟨j, hjn, h3.1.symm.trans hd⟩
        · rw [inv.defers]
          have : ∀ (acc : List (Option Tmp × Sp)) (k : Nat) (b : Act), (putAll vs k acc b).defers = b.defers := by
            intro acc
            induction acc with
            | nil => intro k b; rfl
            | cons x r ih =>
              intro k b
              obtain ⟨d, s⟩ := x
              cases s <;> simp only [putAll] <;> rw [ih, put_defers']
          rw [this]
      rw [← hact] at hlast
      replace hlast := hlast (hjB.elim (fun h => inv.jj (unl_zero n hf _ (jB_spec h).1)) fun h => h _ _)
      have := wpAny_of_seq (md := .any) (P := P) (Q' := Q) (l.drop n) n listed a w' (fun j => by simp [List.getElem?_drop])
        (by rw [hlisted, List.length_drop]; simpa using hseq) hlast
      rwa [List.length_drop] at this
    | succ f ih =>
      intro listed a w' vs inv hf
      obtain ⟨i0, hi0, hi1, hi2⟩ := unl_some n (by rw [hf]; omega)
      have hils : ∀ i, i < n → i < listed.size := fun i hi => by rw [inv.lsize]; simp; omega
      have hready : i0 ∈ Region.ready .any l.toArray listed := by
        obtain ⟨o, ho, hedge, _⟩ := hg i0 hi0
        exact mem_ready.2 ⟨getD_in (hils i0 hi0) hi1, o, ho, fun e he hb => hi2 _ (hedge e he hb)⟩
      rw [show f + 1 + (l.length - n) = (f + (l.length - n)) + 1 by omega]
      refine ⟨fun h0 => (by rw [h0] at hready; cases hready), fun i hi => ?_⟩
      have hin : i < n := by
        rcases Nat.lt_or_ge i n with h' | h'
        · exact h'
        · exfalso
          have hisz : i < l.toArray.size := by
            obtain ⟨_, o, ho, _⟩ := mem_ready.1 hi
            exact (Array.getElem?_eq_some_iff.1 ho).1
          simp only [sinkB, Bool.or_eq_true, decide_eq_true_eq, Bool.and_eq_true] at hS
          rcases hS with hS | ⟨hs, hc⟩
          · omega
          · exact tail_waits hs hc (by omega) ⟨inv.lsize, inv.closed, inv.tail⟩ _ i0 rfl hi0 (getD_in (hils i0 hi0) hi1) i h' hi
      refine inv.step (full := full) (Q := Q) hG hbd hjB hDB (fun k hk => (by obtain ⟨_, _, h1, _, _⟩ := hfull k hk; exact h1)) hfl (fun k hk => (by obtain ⟨_, _, _, h1, _⟩ := hfull k hk; exact h1))
        (fun o ho => (by
          obtain ⟨o', ho', _, _, h1⟩ := hfull i hin
          have : o = o' := Option.some.inj ((by simpa using ho.symm : some o = l[i]?).trans ho')
          subst this
          exact h1)) hi hin fun v a' w'' inv' => ih _ a' w'' _ inv' ?_
      have hun := getD_both (mem_ready.1 hi).1
      have := unl_set hun (hils i hin) n hin
      omega
  have := main n (Array.replicate l.toArray.size false) a0 w.drew (fun _ => undef)
    ⟨rfl, rfl, G.refl _, fun _ _ => rfl, fun k _ hl => (by rw [getD_replicate_false] at hl; cases hl), fun k _ _ hl => (by rw [getD_replicate_false] at hl; cases hl), by simp,
      fun j oj _ hl => (by rw [getD_replicate_false] at hl; cases hl), fun t _ ht => getD_in (by simpa using ht) (getD_replicate_false _ _), fun i _ => Mut.hfut (Fut.refl _), fun hl => (by rw [getD_replicate_false] at hl; cases hl)⟩ (unl_none _ _)
  rwa [show n + (l.length - n) = l.toArray.size by simp; omega] at this

def Run (P : Program) (ops : Array Oper) (w0 : World) (K : Act → World → Prop) : Nat → List Oper → List Sp → Act → List (Nat × (World → Prop)) → Prop
  | _, [], _, a, known => ∀ w, G w0 w → AllFacts known w → Mut.J (a.tmps.getD Mut.js undef) w → K a w
  | i, o :: r, .det c :: sps, a, known => (∀ w, Mut.H i w0 w → Facts known o w → givesG i P ops o a (.det c) w) ∧ Run P ops w0 K (i + 1) r sps (a.put o.dst c) known
  | i, o :: r, .rel S :: sps, a, known => (∀ v w w', Mut.A i w w' → S v w → S v w') ∧ (∀ w, Mut.H i w0 w → Facts known o w → givesG i P ops o a (.rel S) w) ∧
      ∀ v, Run P ops w0 K (i + 1) r sps (a.put o.dst v) (known ++ [(i, S v)])
  | _, _ :: _, [], _, _ => False

theorem Obl_of_run {P : Program} {ops : Array Oper} {w0 : World} {a0 : Act} {K : Act → World → Prop} : ∀ (l : List Oper) (sps : List Sp) (acc : List (Option Tmp × Sp)),
    (∀ v : Nat → Value, Run P ops w0 K acc.length l sps (putAll v 0 acc a0) (knownOf v 0 acc)) → Obl P ops w0 a0 K l acc
  | [], sps, acc, h => fun w hw => lexFin_intro acc 0 a0 fun v hv => by
    have := h v
    simp only [Run] at this
    exact this w hw (allFacts_of acc 0 hv)
  | o :: r, [], acc, h => by have := h (fun _ => undef); simp only [Run] at this
  | o :: r, .det c :: sps, acc, h => by
    refine ⟨.det c, trivial, fun w hw => lexAct_intro acc 0 a0 fun v hv => ?_, Obl_of_run r sps _ fun v => ?_⟩
    · have := h v
      simp only [Run] at this
      exact this.1 w hw (facts_of acc 0 hv)
    · have := (h v)
      simp only [Run] at this
      have h2 := this.2
      rw [putAll_append, knownOf_append, List.length_append]
      simpa [putAll, knownOf] using h2
  | o :: r, .rel S :: sps, acc, h => by
    refine ⟨.rel S, ?_, fun w hw => lexAct_intro acc 0 a0 fun v hv => ?_, Obl_of_run r sps _ fun v => ?_⟩
    · have := h (fun _ => undef)
      simp only [Run] at this
      exact this.1
    · have := h v
      simp only [Run] at this
      exact this.2.1 w hw (facts_of acc 0 hv)
    · have := h v
      simp only [Run] at this
      have h2 := this.2.2 (v acc.length)
      rw [putAll_append, knownOf_append, List.length_append]
      simpa [putAll, knownOf] using h2

/-- THE RULE. 'n': how many operations the head has; 'shape': of each of these whether its value is fixed ('.d') or what is known of it ('.r S'). -/
theorem wp_graph {P : Program} {id : Nat} {Q : Exit → Act → World → Prop} {a0 : Act} {w : World} {l : List Oper} (n : Nat) (shape : List Sh) (hm : P.follows .mixedOrders = true)
    (hB : (graphB l.toArray n && tailB l.toArray n) = true) (hsz : ((List.range n).all fun k => match dstAt l.toArray k with | some d => decide (d < a0.tmps.size) | none => true) = true) (hjB : jB Mut.jm Mut.js l.toArray n = true ∨ ∀ x w, Mut.J x w) (hDB : ∀ i j o, l.toArray[i]? = some o → Mut.D i j = true → dep o j = true)
    (h : Exs (fun sps => Run P l.toArray w.drew (wpList P l.toArray Q (l.drop n)) 0 (l.take n) sps a0 []) shape) : (Code.region id l.toArray true).wp P Q a0 w := by
  obtain ⟨sps, hs⟩ := Exs_some shape h
  exact wp_region_graph n hm hB hsz hjB hDB (Obl_of_run _ sps [] fun _ => hs)

section
variable {P : Program} {ops : Array Oper} {w0 : World} {K : Act → World → Prop} {i : Nat} {o : Oper} {r : List Oper} {sps : List Sp} {a : Act} {known : List (Nat × (World → Prop))}
/-- An operation that makes nothing. -/
theorem Run.val {c : Value} (hj : NoJ i) (hg : o.guard = none) (h : ∀ w, Mut.H i w0 w → Facts known o w → (execOp a.eval o).run P w = .ok (.value c) w) (k : Run P ops w0 K (i + 1) r sps (a.put o.dst c) known) :
    Run P ops w0 K i (o :: r) (.det c :: sps) a known := by
  refine ⟨fun w hw hf => ?_, k⟩
  unfold givesG
  rw [if_pos (wanted_none hg _)]
  unfold gives
  rw [h w hw hf]
  exact ⟨(Eff.refl i w).j hj, rfl⟩
/-- The same behind a guard that lets it go on. -/
theorem Run.valG {c : Value} (hj : NoJ i) (hg : Region.wanted o (yielded ops a.tmps) = true) (h : ∀ w, Mut.H i w0 w → Facts known o w → (execOp a.eval o).run P w = .ok (.value c) w) (k : Run P ops w0 K (i + 1) r sps (a.put o.dst c) known) :
    Run P ops w0 K i (o :: r) (.det c :: sps) a known := by
  refine ⟨fun w hw hf => ?_, k⟩
  unfold givesG
  rw [if_pos hg]
  unfold gives
  rw [h w hw hf]
  exact ⟨(Eff.refl i w).j hj, rfl⟩
theorem Run.skip (hj : NoJ i) (hg : Region.wanted o (yielded ops a.tmps) = false) (k : Run P ops w0 K (i + 1) r sps (a.put o.dst undef) known) :
    Run P ops w0 K i (o :: r) (.det undef :: sps) a known := by
  refine ⟨fun w hw hf => ?_, k⟩
  unfold givesG
  rw [if_neg (by rw [hg]; exact Bool.false_ne_true)]
  exact ⟨(Eff.refl i w).j hj, rfl⟩
/-- A call whose answer is known. -/
theorem Run.call {c : Value} {f : FuncId} {args : Array Value} (hj : NoJ i) (hg : Region.wanted o (yielded ops a.tmps) = true) (h : ∀ w, Mut.H i w0 w → (execOp a.eval o).run P w = .ok (.enter f args) w)
    (hc : ∀ w, Mut.H i w0 w → Facts known o w → Calls P f args w fun e w' => e = .returned c ∧ Fut w w') (k : Run P ops w0 K (i + 1) r sps (a.put o.dst c) known) :
    Run P ops w0 K i (o :: r) (.det c :: sps) a known := by
  refine ⟨fun w hw hf => ?_, k⟩
  unfold givesG
  rw [if_pos hg]
  unfold gives
  rw [h w hw]
  exact (hc w hw hf).mono fun e w' ⟨he, hf'⟩ => ⟨c, he, (Eff.of_fut hf').j hj, rfl⟩
/-- A call that turns memory, whose answer is known. -/
theorem Run.mut {c : Value} {f : FuncId} {args : Array Value} (hj : NoJ i) (hg : Region.wanted o (yielded ops a.tmps) = true) (h : ∀ w, Mut.H i w0 w → (execOp a.eval o).run P w = .ok (.enter f args) w)
    (hc : ∀ w, Mut.H i w0 w → Facts known o w → Calls P f args w fun e w' => e = .returned c ∧ Eff i w w') (k : Run P ops w0 K (i + 1) r sps (a.put o.dst c) known) :
    Run P ops w0 K i (o :: r) (.det c :: sps) a known := by
  refine ⟨fun w hw hf => ?_, k⟩
  unfold givesG
  rw [if_pos hg]
  unfold gives
  rw [h w hw]
  exact (hc w hw hf).mono fun e w' ⟨he, hf'⟩ => ⟨c, he, hf'.j hj, rfl⟩
/-- An operation that writes. -/
theorem Run.mutV (hg : Region.wanted o (yielded ops a.tmps) = true)
    (h : ∀ w, Mut.H i w0 w → Facts known o w → ∃ w', (execOp a.eval o).run P w = .ok .skip w' ∧ Eff i w w' ∧ (i = Mut.jm → Mut.J (a.tmps.getD Mut.js undef) w')) (k : Run P ops w0 K (i + 1) r sps (a.put o.dst undef) known) :
    Run P ops w0 K i (o :: r) (.det undef :: sps) a known := by
  refine ⟨fun w hw hf => ?_, k⟩
  unfold givesG
  rw [if_pos hg]
  unfold gives
  obtain ⟨w', he, h1, h2⟩ := h w hw hf
  rw [he]
  exact ⟨⟨h1, h2⟩, rfl⟩
/-- A call of whose answer something is known. -/
theorem Run.callR {S : Value → World → Prop} {f : FuncId} {args : Array Value} (hj : NoJ i) (hg : Region.wanted o (yielded ops a.tmps) = true) (hm : ∀ v w w', Mut.A i w w' → S v w → S v w') (h : ∀ w, Mut.H i w0 w → (execOp a.eval o).run P w = .ok (.enter f args) w)
    (hc : ∀ w, Mut.H i w0 w → Facts known o w → Calls P f args w fun e w' => ∃ v, e = .returned v ∧ Fut w w' ∧ S v w') (k : ∀ v, Run P ops w0 K (i + 1) r sps (a.put o.dst v) (known ++ [(i, S v)])) :
    Run P ops w0 K i (o :: r) (.rel S :: sps) a known := by
  refine ⟨hm, fun w hw hf => ?_, k⟩
  unfold givesG
  rw [if_pos hg]
  unfold gives
  rw [h w hw]
  exact (hc w hw hf).mono fun e w' ⟨v, he, hf', hs⟩ => ⟨v, he, (Eff.of_fut hf').j hj, hs⟩
/-- A call that turns memory, of whose answer something is known. -/
theorem Run.mutR {S : Value → World → Prop} {f : FuncId} {args : Array Value} (hj : NoJ i) (hg : Region.wanted o (yielded ops a.tmps) = true) (hm : ∀ v w w', Mut.A i w w' → S v w → S v w') (h : ∀ w, Mut.H i w0 w → (execOp a.eval o).run P w = .ok (.enter f args) w)
    (hc : ∀ w, Mut.H i w0 w → Facts known o w → Calls P f args w fun e w' => ∃ v, e = .returned v ∧ Eff i w w' ∧ S v w') (k : ∀ v, Run P ops w0 K (i + 1) r sps (a.put o.dst v) (known ++ [(i, S v)])) :
    Run P ops w0 K i (o :: r) (.rel S :: sps) a known := by
  refine ⟨hm, fun w hw hf => ?_, k⟩
  unfold givesG
  rw [if_pos hg]
  unfold gives
  rw [h w hw]
  exact (hc w hw hf).mono fun e w' ⟨v, he, hf', hs⟩ => ⟨v, he, hf'.j hj, hs⟩
/-- An operation that makes memory: of its value something is known. -/
theorem Run.valR {S : Value → World → Prop} (hj : NoJ i) (hg : Region.wanted o (yielded ops a.tmps) = true) (hm : ∀ v w w', Mut.A i w w' → S v w → S v w')
    (h : ∀ w, Mut.H i w0 w → Facts known o w → ∃ v w', (execOp a.eval o).run P w = .ok (.value v) w' ∧ Fut w w' ∧ S v w') (k : ∀ v, Run P ops w0 K (i + 1) r sps (a.put o.dst v) (known ++ [(i, S v)])) :
    Run P ops w0 K i (o :: r) (.rel S :: sps) a known := by
  refine ⟨hm, fun w hw hf => ?_, k⟩
  unfold givesG
  rw [if_pos hg]
  unfold gives
  obtain ⟨v, w', he, h1, h2⟩ := h w hw hf
  rw [he]
  exact ⟨(Eff.of_fut h1).j hj, h2⟩
theorem Run.done (h : ∀ w, G w0 w → AllFacts known w → Mut.J (a.tmps.getD Mut.js undef) w → K a w) : Run P ops w0 K i [] sps a known := h
end

end Go.Proofs.YtackadhamghblaaGreat.On
namespace Go.Proofs.YtackadhamghblaaGreat.On
/-- One operation turns memory. -/
abbrev Mut.one (m : Nat) (R : World → World → Prop) (hf : ∀ {a b : World}, Fut a b → R a b) (ht : ∀ {a b c : World}, R a b → R b c → R a c) : Mut where
  H i := if i = m then Fut else R
  A i := if i = m then Fut else R
  G := R
  D _ _ := false
  hfut := fun {i} {a b} h => by
    show (if i = m then Fut else R) a b
    split
    · exact h
    · exact hf h
  afut := fun {i} {a b} h => by
    show (if i = m then Fut else R) a b
    split
    · exact h
    · exact hf h
  htrans := fun {i} {a b c} h k => by
    show (if i = m then Fut else R) a c
    change (if i = m then Fut else R) a b at h
    change (if i = m then Fut else R) b c at k
    split at h
    · rename_i e; rw [if_pos e] at k ⊢; exact Fut.trans h k
    · rename_i e; rw [if_neg e] at k ⊢; exact ht h k
  gfut := hf
  gtrans := ht
  jm := 0
  js := 0
  J _ _ := True
  jkeep _ _ := trivial
theorem Eff.one {m : Nat} {R : World → World → Prop} {hf : ∀ {a b : World}, Fut a b → R a b} {ht : ∀ {a b c : World}, R a b → R b c → R a c} {w w' : World} (h : R w w') : @Eff (Mut.one m R hf ht) m w w' :=
  ⟨⟨fun j hj _ => (by show (if j = m then Fut else R) w w'; rw [if_neg hj]; exact h), fun j hj _ => (by show (if j = m then Fut else R) w w'; rw [if_neg hj]; exact h)⟩, h⟩
/-- One operation turns memory; what holds of a slot behind it. -/
abbrev Mut.oneJ (m : Nat) (R : World → World → Prop) (hf : ∀ {a b : World}, Fut a b → R a b) (ht : ∀ {a b c : World}, R a b → R b c → R a c) (s : Tmp) (K : Value → World → Prop) (hK : ∀ {x : Value} {a b : World}, Fut a b → K x a → K x b) : Mut where
  H i := if i = m then Fut else R
  A i := if i = m then Fut else R
  G := R
  D _ _ := false
  hfut := (Mut.one m R hf ht).hfut
  afut := (Mut.one m R hf ht).afut
  htrans := (Mut.one m R hf ht).htrans
  gfut := hf
  gtrans := ht
  jm := m
  js := s
  J := K
  jkeep := fun {x} {a} {b} h k => by
    change (if m = m then Fut else R) a b at h
    rw [if_pos rfl] at h
    exact hK h k
section
variable {m : Nat} {R : World → World → Prop} {hf : ∀ {a b : World}, Fut a b → R a b} {ht : ∀ {a b c : World}, R a b → R b c → R a c} {s : Tmp} {K : Value → World → Prop} {hK : ∀ {x : Value} {a b : World}, Fut a b → K x a → K x b} {w w' : World}
theorem Eff.oneJ (h : R w w') : @Eff (Mut.oneJ m R hf ht s K hK) m w w' :=
  ⟨⟨fun j hj _ => (by show (if j = m then Fut else R) w w'; rw [if_neg hj]; exact h), fun j hj _ => (by show (if j = m then Fut else R) w w'; rw [if_neg hj]; exact h)⟩, h⟩
theorem oneJ_dep {ops : Array Oper} : ∀ i j o, ops[i]? = some o → @Mut.D (Mut.oneJ m R hf ht s K hK) i j = true → dep o j = true := fun i j o ho hd => by
  have hd' : false = true := hd
  cases hd'
end
/-- Two operations turn memory, n behind m: m does B, n does C. -/
abbrev Mut.two (m n : Nat) (B C R : World → World → Prop) (hB : ∀ {a b : World}, Fut a b → B a b) (hC : ∀ {a b : World}, Fut a b → C a b) (hf : ∀ {a b : World}, Fut a b → R a b)
    (tB : ∀ {a b c : World}, B a b → B b c → B a c) (ht : ∀ {a b c : World}, R a b → R b c → R a c) : Mut where
  H i := if i = m then Fut else if i = n then B else R
  A i := if i = m then C else if i = n then Fut else R
  G := R
  D i j := i == n && j == m
  hfut := fun {i} {a b} h => by
    show (if i = m then Fut else if i = n then B else R) a b
    split
    · exact h
    · split
      · exact hB h
      · exact hf h
  afut := fun {i} {a b} h => by
    show (if i = m then C else if i = n then Fut else R) a b
    split
    · exact hC h
    · split
      · exact h
      · exact hf h
  htrans := fun {i} {a b c} h k => by
    show (if i = m then Fut else if i = n then B else R) a c
    change (if i = m then Fut else if i = n then B else R) a b at h
    change (if i = m then Fut else if i = n then B else R) b c at k
    by_cases e : i = m
    · rw [if_pos e] at h k ⊢; exact Fut.trans h k
    · rw [if_neg e] at h k ⊢
      by_cases e2 : i = n
      · rw [if_pos e2] at h k ⊢; exact tB h k
      · rw [if_neg e2] at h k ⊢; exact ht h k
  gfut := hf
  gtrans := ht
  jm := 0
  js := 0
  J _ _ := True
  jkeep _ _ := trivial
section
variable {m n : Nat} {B C R : World → World → Prop} {hB : ∀ {a b : World}, Fut a b → B a b} {hC : ∀ {a b : World}, Fut a b → C a b} {hf : ∀ {a b : World}, Fut a b → R a b}
    {tB : ∀ {a b c : World}, B a b → B b c → B a c} {ht : ∀ {a b c : World}, R a b → R b c → R a c} {w w' : World}
theorem Eff.two1 (h1 : B w w') (h2 : R w w') : @Eff (Mut.two m n B C R hB hC hf tB ht) m w w' :=
  ⟨⟨fun j hj _ => (by
      show (if j = m then Fut else if j = n then B else R) w w'
      rw [if_neg hj]
      split
      · exact h1
      · exact h2), fun j hj hd => (by
      show (if j = m then C else if j = n then Fut else R) w w'
      have hjn : j ≠ n := fun e => by
        have hd' : (j == n && m == m) = false := hd
        simp [e] at hd'
      rw [if_neg hj, if_neg hjn]
      exact h2)⟩, h2⟩
theorem Eff.two2 (h1 : C w w') (h2 : R w w') : @Eff (Mut.two m n B C R hB hC hf tB ht) n w w' :=
  ⟨⟨fun j hj hd => (by
      show (if j = m then Fut else if j = n then B else R) w w'
      have hjm : j ≠ m := fun e => by
        have hd' : (n == n && j == m) = false := hd
        simp [e] at hd'
      rw [if_neg hjm, if_neg hj]
      exact h2), fun j hj _ => (by
      show (if j = m then C else if j = n then Fut else R) w w'
      rw [if_neg hj]
      split
      · exact h1
      · exact h2)⟩, h2⟩
theorem two_dep {ops : Array Oper} (h : (match ops[n]? with | some o => dep o m | none => false) = true) : ∀ i j o, ops[i]? = some o → @Mut.D (Mut.two m n B C R hB hC hf tB ht) i j = true → dep o j = true := fun i j o ho hd => by
  have hd' : (i == n && j == m) = true := hd
  simp only [Bool.and_eq_true, beq_iff_eq] at hd'
  obtain ⟨rfl, rfl⟩ := hd'
  rw [ho] at h
  exact h
end
theorem one_dep {m : Nat} {R : World → World → Prop} {hf : ∀ {a b : World}, Fut a b → R a b} {ht : ∀ {a b c : World}, R a b → R b c → R a c} {ops : Array Oper} : ∀ i j o, ops[i]? = some o → @Mut.D (Mut.one m R hf ht) i j = true → dep o j = true := fun i j o ho hd => by
  have hd' : false = true := hd
  cases hd'
end Go.Proofs.YtackadhamghblaaGreat.On
/- The rule of XOn: an operation of the region's own that turns memory, of whose value something is known. -/
namespace Go.Proofs.YtackadhamghblaaGreat.On
open Go.RowKit
set_option linter.unusedSimpArgs false
set_option linter.unusedVariables false
variable [Mut] {P : Program} {ops : Array Oper} {o : Oper} {a : Act} {w0 : World} {K : Act → World → Prop} {i : Nat} {r : List Oper} {sps : List Sp} {known : List (Nat × (World → Prop))}
theorem Run.mutVR {S : Value → World → Prop} (hj : NoJ i) (hg : Region.wanted o (yielded ops a.tmps) = true) (hm : ∀ v w w', Mut.A i w w' → S v w → S v w')
    (h : ∀ w, Mut.H i w0 w → Facts known o w → ∃ v w', (execOp a.eval o).run P w = .ok (.value v) w' ∧ Eff i w w' ∧ S v w') (k : ∀ v, Run P ops w0 K (i + 1) r sps (a.put o.dst v) (known ++ [(i, S v)])) :
    Run P ops w0 K i (o :: r) (.rel S :: sps) a known := by
  refine ⟨hm, fun w hw hf => ?_, k⟩
  unfold givesG
  rw [if_pos hg]
  unfold gives
  obtain ⟨v, w', he, h1, h2⟩ := h w hw hf
  rw [he]
  exact ⟨h1.j hj, h2⟩
end Go.Proofs.YtackadhamghblaaGreat.On
