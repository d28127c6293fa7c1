/- TreeR, Rel0, TwTm, TwLf -/
import Derived.Test.YtgcgmbegkfaifaaGreatDoorProg
import Derived.Lib.Hide
import Derived.WalkSpells
import Derived.WalkLawsBesides
import Derived.WalkKit
import Derived.Laws.Pointers
import Derived.Deep.QuietTactic
import Derived.BigQuiet
import Derived.Test.YtgcgmbegkfaifaaGreatDoorC03
/- Rules: read off the form's own reading. -/
namespace Go.Proofs.YtgcgmbegkfaifaaGreatDoor
open Go.RowKit Go.ChangeShapes Go.WideShapes Go.ChangeAt Go.Deep
set_option linter.unusedSimpArgs false
set_option linter.unusedVariables false
set_option maxRecDepth 10000

theorem cS : Tryz.prog.cellsOf 9 = 1 := by kernel_rfl
theorem cVal : Tryz.prog.cellsOf 61 = 3 := by kernel_rfl
theorem cTm : Tryz.prog.cellsOf 63 = 4 := by kernel_rfl
theorem cEx : Tryz.prog.cellsOf 66 = 6 := by kernel_rfl
theorem cAt : Tryz.prog.cellsOf 56 = 2 := by kernel_rfl
theorem cLt : Tryz.prog.cellsOf 68 = 16 := by kernel_rfl
theorem cAr : Tryz.prog.cellsOf 85 = 5 := by kernel_rfl
theorem cRu : Tryz.prog.cellsOf 29 = 3 := by kernel_rfl
theorem cOp : Tryz.prog.cellsOf 58 = 1 := by kernel_rfl
theorem cLk : Tryz.prog.cellsOf 53 = 1 := by kernel_rfl
theorem cRl : Tryz.prog.cellsOf 57 = 1 := by kernel_rfl
theorem cAg : Tryz.prog.cellsOf 83 = 1 := by kernel_rfl
theorem cEs : Tryz.prog.cellsOf 64 = 1 := by kernel_rfl
theorem cTs : Tryz.prog.cellsOf 54 = 1 := by kernel_rfl
theorem cAs : Tryz.prog.cellsOf 26 = 1 := by kernel_rfl
theorem cLs : Tryz.prog.cellsOf 27 = 1 := by kernel_rfl
theorem bEx : Tryz.prog.bytesOf 66 = 80 := by kernel_rfl
theorem bTm : Tryz.prog.bytesOf 63 = 48 := by kernel_rfl
theorem bLt : Tryz.prog.bytesOf 68 = 216 := by kernel_rfl
theorem bAr : Tryz.prog.bytesOf 85 = 56 := by kernel_rfl
theorem bRu : Tryz.prog.bytesOf 29 = 64 := by kernel_rfl
theorem field_at {α : Type} {P : Program} {f : Field} {R : World → List Value → α → Prop} {H : Type} {enc : TypeId × Value → H} {w : World} {base : Nat} {held : Bool} {t ty : TypeId} {fs : Array Field} {fuel o n : Nat} {cs : List Value} {x : DataW H × List MemPlace}
    (hs : P.underlying t = some (.struct fs)) (h : DataW.trod enc P w base (fun _ => true) held fuel t cs = some x) (hn : ∀ n ∈ x.1.weights P t, n ≤ reachBytes) (i : Nat) (hi : fs[i]? = some f) (ho : f.offset = o) (hty : f.type = ty) (hc : P.cellsOf ty = n) (hR : Reads P ty R) :
    ∃ d, R w ((cs.drop o).take n) d := by
  subst ho; subst hty; subst hc
  exact reads_field hs h hn i hi hR
theorem fieldD_at {α : Type} {P : Program} {f : Field} {R : World → List Value → α → Prop} {H : Type} {enc : TypeId × Value → H} {w : World} {base : Nat} {held : Bool} {t ty : TypeId} {fs : Array Field} {fuel o n : Nat} {cs : List Value} {x : DataW H × List MemPlace}
    (hs : P.underlying t = some (.struct fs)) (h : DataW.trod enc P w base (fun _ => true) held fuel t cs = some x) (hn : ∀ n ∈ x.1.weights P t, n ≤ reachBytes) (i : Nat) (hi : fs[i]? = some f) (ho : f.offset = o) (hty : f.type = ty) (hc : P.cellsOf ty = n) {k : Nat} (hk : SizeOf.sizeOf x.1 < k + 1) (hR : ReadsD k P ty R) :
    ∃ d, R w ((cs.drop o).take n) d := by
  subst ho; subst hty; subst hc
  exact readsD_field hs h hn i hi hk hR
theorem rTm : Reads Tryz.prog 63 RTm := by
  intro H enc w base held fuel cs x h hn
  have hs := Tryz.underlying63
  have hl := (reads_len hs h).trans cTm
  obtain ⟨s, e0, w0⟩ := field_at (o := 0) hs h hn 0 rfl rfl rfl cS (reads_string Tryz.underlying9)
  obtain ⟨v, e1, w1⟩ := field_at (o := 1) hs h hn 1 rfl rfl rfl cVal rV
  match cs, hl with
  | [a, b, c, d], _ =>
    simp [V.cells] at e0 e1
    exact ⟨⟨s, v⟩, by rw [e0, e1.1, e1.2.1, e1.2.2]; rfl, w0, w1⟩
theorem rExD : ∀ k, ReadsD k Tryz.prog 66 (RE k)
  | 0 => fun H enc w base held fuel cs x h hn hz => absurd hz (Nat.not_lt_zero _)
  | k + 1 => by
    intro H enc w base held fuel cs x h hn hz
    have hs := Tryz.underlying66
    have hl := (reads_len hs h).trans cEx
    obtain ⟨op, e0, w0⟩ := field_at (o := 0) hs h hn 0 rfl rfl rfl cOp (reads_int Tryz.underlying58)
    obtain ⟨t, e1, w1⟩ := field_at (o := 1) hs h hn 1 rfl rfl rfl cTm rTm
    obtain ⟨kids, kv, e2, w2⟩ := fieldD_at (o := 5) hs h hn 2 rfl rfl rfl cEs hz (readsD_slice (M := 1759218604441) Tryz.underlying64 cEx (by omega) (fun c hc => by rw [bEx] at hc; unfold reachBytes at hc; omega) (rExD k))
    match cs, hl with
    | [a, b, c, d, e, f], _ =>
      simp [Tm.cells] at e0 e1 e2
      exact ⟨.mk op t kids, kv, by rw [e0, e1.1, e1.2.1, e1.2.2.1, e1.2.2.2, e2], w0, w1, w2⟩
theorem rEx : Reads Tryz.prog 66 RX := reads_ofD rExD
theorem rLt : Reads Tryz.prog 68 RLt := by
  intro H enc w base held fuel cs x h hn
  have hs := Tryz.underlying68
  have hl := (reads_len hs h).trans cLt
  have rAt : Reads Tryz.prog 56 (fun w cs (d : ByteArray × List Tm) => ∃ av, cs = [.string d.1, av] ∧ d.1.size ≤ 140737488351232 ∧ SlRep 4 2932031007402 RTm w av d.2) := by
    intro H enc w base held fuel cs x h hn
    have hs := Tryz.underlying56
    have hl := (reads_len hs h).trans cAt
    obtain ⟨s, e0, w0⟩ := field_at (o := 0) hs h hn 0 rfl rfl rfl cS (reads_string Tryz.underlying9)
    obtain ⟨ts, v, e1, w1⟩ := field_at (o := 1) hs h hn 1 rfl rfl rfl cTs (reads_slice (M := 2932031007402) Tryz.underlying54 cTm (by omega) (fun c hc => by rw [bTm] at hc; unfold reachBytes at hc; omega) rTm)
    match cs, hl with
    | [a, b], _ =>
      simp at e0 e1
      exact ⟨(s, ts), v, by rw [e0, e1], w0, w1⟩
  obtain ⟨k, e0, w0⟩ := field_at (o := 0) hs h hn 0 rfl rfl rfl cLk (reads_int Tryz.underlying53)
  obtain ⟨⟨p, ts⟩, av, e1, w1, w1'⟩ := field_at (o := 1) hs h hn 1 rfl rfl rfl cAt rAt
  obtain ⟨r, e2, w2⟩ := field_at (o := 3) hs h hn 2 rfl rfl rfl cRl (reads_int Tryz.underlying57)
  obtain ⟨l, w3⟩ := field_at (o := 4) hs h hn 3 rfl rfl rfl cEx rEx
  obtain ⟨d, w4⟩ := field_at (o := 10) hs h hn 4 rfl rfl rfl cEx rEx
  match cs, hl with
  | [a0, a1, a2, a3, a4, a5, a6, a7, a8, a9, b0, b1, b2, b3, b4, b5], _ =>
    simp at e0 e1 e2 w3 w4
    exact ⟨⟨k, p, ts, r, l, d⟩, av, [a4, a5, a6, a7, a8, a9], [b0, b1, b2, b3, b4, b5], by rw [e0, e1.1, e1.2, e2]; rfl, rfl, rfl, w0, w2, w1, w1', w3, w4⟩
theorem rAr : Reads Tryz.prog 85 RAr := by
  intro H enc w base held fuel cs x h hn
  have hs := Tryz.underlying85
  have hl := (reads_len hs h).trans cAr
  obtain ⟨g, e0, w0⟩ := field_at (o := 0) hs h hn 0 rfl rfl rfl cAg (reads_int Tryz.underlying83)
  obtain ⟨t, e1, w1⟩ := field_at (o := 1) hs h hn 1 rfl rfl rfl cTm rTm
  match cs, hl with
  | [a, b, c, d, e], _ =>
    simp [Tm.cells] at e0 e1
    exact ⟨⟨g, t⟩, by rw [e0, e1.1, e1.2.1, e1.2.2.1, e1.2.2.2]; rfl, w0, w1⟩
theorem rRu : Reads Tryz.prog 29 RRu := by
  intro H enc w base held fuel cs x h hn
  have hs := Tryz.underlying29
  have hl := (reads_len hs h).trans cRu
  obtain ⟨p, e0, w0⟩ := field_at (o := 0) hs h hn 0 rfl rfl rfl cS (reads_string Tryz.underlying9)
  obtain ⟨hd, hv, e1, w1⟩ := field_at (o := 1) hs h hn 1 rfl rfl rfl cAs (reads_slice (M := 2513169434916) Tryz.underlying26 cAr (by omega) (fun c hc => by rw [bAr] at hc; unfold reachBytes at hc; omega) rAr)
  obtain ⟨bd, bv, e2, w2⟩ := field_at (o := 2) hs h hn 2 rfl rfl rfl cLs (reads_slice (M := 651562446089) Tryz.underlying27 cLt (by omega) (fun c hc => by rw [bLt] at hc; unfold reachBytes at hc; omega) rLt)
  match cs, hl with
  | [a, b, c], _ =>
    simp at e0 e1 e2
    exact ⟨⟨p, hd, bd⟩, hv, bv, by rw [e0, e1, e2], w0, w1, w2⟩
theorem rRus : Reads Tryz.prog 22 (SlR 3 2199023255552 RRu) :=
  reads_slice Tryz.underlying22 cRu (by omega) (fun c hc => by rw [bRu] at hc; unfold reachBytes at hc; omega) rRu
end Go.Proofs.YtgcgmbegkfaifaaGreatDoor
/- relation.Relation: what it is in memory; New, Arity, Len, Gone, At, Has. -/
namespace Go.Proofs.YtgcgmbegkfaifaaGreatDoor
open Go.RowKit Go.WideMaps
set_option linter.unusedSimpArgs false
set_option linter.unusedVariables false

section
variable {B : Nat} {w w' : World} {b pb mb : Nat} {lv : Value} {ar gone : Nat} {xs : List Rw} {S : Nat → Prop}
theorem OwnL.only {α : Type} {sz : Nat} {e : TypeId} {R : World → List Value → α → Prop} {v : Value} {ys : List α} (h : OwnL sz B e R w v ys) (hR : ∀ cs x, R w cs x → R w' cs x) (hg : Only S w w') (hne : ∀ k, v.ownBlock = some k → ¬ S k) : OwnL sz B e R w' v ys := by
  obtain ⟨css, h1, h2, h3, h4⟩ := h
  refine ⟨css, h1, fun i cs x hi hx => ⟨(h2 i cs x hi hx).1, hR _ _ (h2 i cs x hi hx).2⟩, h3, ?_⟩
  rcases h4 with h4 | ⟨g, cap, cur, a1, a2, a3, a4⟩
  · exact .inl h4
  · exact .inr ⟨g, cap, cur, a1, a2, hg.keeps a3 (hne g (by rw [a1]; rfl)), a4⟩
theorem cell_at {g : Nat} {cs : Array Value} {t : TypeId} {fr : Nat × Nat} (h : w.heap[g]? = some (.cells cs t fr)) (j : Nat) (v : Value) (hj : cs[j]? = some v) : w.cell? ⟨g, j, none⟩ = some v := by
  simp [World.cell?, h, hj]
theorem free_at {g : Nat} {cs : Array Value} {t : TypeId} (h : w.heap[g]? = some (.cells cs t (0, 0))) (j : Nat) : w.frozen? ⟨g, j, none⟩ = false := by
  simp [World.frozen?, h]
end

/-! ### Is it there? Its arity, its rows, its number of those that are gone -/
end Go.Proofs.YtgcgmbegkfaifaaGreatDoor
/- Copies of lists of terms, and of heads' terms, a mark behind each: TwinTerms, LeftTerms, TwinArgs, LeftArgs. -/
namespace Go.Proofs.YtgcgmbegkfaifaaGreatDoor
open Go.RowKit
set_option linter.unusedSimpArgs false
set_option linter.unusedVariables false

theorem blk_one {w : World} {g sz : Nat} {t : TypeId} {z cs : List Value} (h : BlkF w g t sz (cellsAt [cs] z sz)) (hl : cs.length = sz) : w.heap[g]? = some (.cells cs.toArray t (0, 0)) := by
  obtain ⟨arr, h1, h2, h3⟩ := h
  rw [h1]
  congr 2
  refine Array.ext_getElem? fun j => ?_
  by_cases hj : j < sz
  · rw [h3 j hj]
    unfold cellsAt
    rw [Nat.div_eq_of_lt hj, Nat.mod_eq_of_lt hj]
    have : j < cs.length := by omega
    simp [List.getD, this]
  · rw [Array.getElem?_eq_none (by omega), Array.getElem?_eq_none (by simp; omega)]
theorem blk_zero (w : World) (z : List Value) (t : TypeId) (hz : 0 < z.length) : BlkF (w.alloc (.cells z.toArray t)) w.heap.size t z.length (cellsAt [] z z.length) :=
  ⟨z.toArray, heap_alloc_new w _, by simp, fun j hj => by
    rw [cellsAt_nil, Nat.mod_eq_of_lt hj]
    simp [List.getD, hj]⟩
def Ar.cells (a : Ar) : List Value := .int .i8 a.g :: a.t.cells
theorem sl_row {α : Type} {sz M : Nat} {R : World → List Value → α → Prop} {w : World} {A : Option Addr} {n cap : Nat} {xs : List α} (h : SlRep sz M R w (.slice A n cap) xs) {k : Nat} (hk : k < xs.length) :
    ∃ b off cs, A = some ⟨b, off, none⟩ ∧ R w cs xs[k] ∧ cs.length = sz ∧ ∀ j v, cs[j]? = some v → w.cell? ⟨b, off + k * sz + j, none⟩ = some v := by
  obtain ⟨A1, cap1, hv, _, _, h3⟩ := h
  obtain ⟨b, off, cs, hA, hl, hc, hr⟩ := h3 k _ (List.getElem?_eq_getElem hk)
  injection hv with hv _ _
  exact ⟨b, off, cs, hv.trans hA, hr, hl, fun j v hj => by rw [Nat.add_assoc]; exact hc j v hj⟩
theorem take_map {α β : Type} {l : List α} {k : Nat} (hk : k < l.length) (f : α → β) : (l.take (k + 1)).map f = (l.take k).map f ++ [f l[k]] := by
  rw [List.take_succ_eq_append_getElem hk, List.map_append]; rfl
theorem Tm.one (t : Tm) : ∀ v ∈ t.cells, v.oneCell' = true := fun v hv => by
  unfold Tm.cells at hv
  simp only [List.mem_cons, List.not_mem_nil, or_false] at hv
  rcases hv with rfl | rfl | rfl | rfl <;> rfl
theorem Ar.one (t : Ar) : ∀ v ∈ t.cells, v.oneCell' = true := fun v hv => by
  unfold Ar.cells Tm.cells at hv
  simp only [List.mem_cons, List.not_mem_nil, or_false] at hv
  rcases hv with rfl | rfl | rfl | rfl | rfl <;> rfl
theorem RTm.cs {w : World} {cs : List Value} {t : Tm} (h : RTm w cs t) : cs = t.cells := h.1
theorem RAr.cs {w : World} {cs : List Value} {t : Ar} (h : RAr w cs t) : cs = t.cells := h.1
def zTm : List Value := [.string ⟨#[]⟩, .int .i8 0, .int .i64 0, .string ⟨#[]⟩]
def mkTm : List Value := [.string wordS, .int .i8 0, .int .i64 0, .string ⟨#[]⟩]
def zAr : List Value := [.int .i8 0, .string ⟨#[]⟩, .int .i8 0, .int .i64 0, .string ⟨#[]⟩]
def mkAr : List Value := [.int .i8 0, .string wordS, .int .i8 0, .int .i64 0, .string ⟨#[]⟩]
theorem infoTm4 : (Tryz.prog.info? 63).map (fun i => (i.zero, i.size, i.bytes)) = some (some (.agg zTm.toArray), 4, 48) := by kernel_rfl
theorem infoAr5 : (Tryz.prog.info? 85).map (fun i => (i.zero, i.size, i.bytes)) = some (some (.agg zAr.toArray), 5, 56) := by kernel_rfl
theorem infoTmN : (Tryz.prog.info? 63).map (·.size) = some 4 := by kernel_rfl
theorem infoArN : (Tryz.prog.info? 85).map (·.size) = some 5 := by kernel_rfl
set_option maxHeartbeats 1000000 in
theorem markTm_any (w : World) (hP : Pows w) : Calls Tryz.prog 123 #[.int .i64 777777] w fun e w' => e = .returned (.agg mkTm.toArray) ∧ Fut w w' := by
  have HW := Lib.hid (fun w hP => word_any' w hP)
  have hb0 := Lib.hid (blk_zero w zTm 63 (by decide))
  have f0 := Fut.alloc w (.cells zTm.toArray 63)
  unfold mkTm
  generalize wordS = t at HW ⊢
  go_enter Tryz.func123, Tryz.ntmps123
  go_wp2_with fail
  refine (HW.out _ (hP.fut f0)).mono ?_
  rintro e w1 ⟨rfl, h1⟩
  have hb1 := Lib.hid (hb0.out.fut h1)
  have F1 := Lib.hid (f0.trans h1)
  clear h1 f0
  have hi3 := infoTmN
  go_wp2_with (first | (show wpList _ _ _ (Oper.mk _ (Op.store _ _ _) _ _ _ _ :: _) _ _; refine wpList_storeK ([.string t, .int .i8 0, .int .i64 0, .string ⟨#[]⟩] : List Value) rfl _ _ _ rfl rfl rfl hb1.out (fun c hc => (by cases hc)) rfl (by decide) rfl (by decide) hi3 (by intro v hv; simp only [List.mem_cons, List.not_mem_nil, or_false] at hv; rcases hv with (rfl|rfl|rfl|rfl) <;> rfl) ?_; intro w2 hB2 hO2))
  have hb2 := blk_one hB2 rfl
  have OW : Fut w w2 := ((Only.fut (S := fun k => k = w.heap.size) F1.out).trans hO2).toFut fun k hk => by omega
  refine bodyPost_ret (v := .agg ([.string t, .int .i8 0, .int .i64 0, .string ⟨#[]⟩] : List Value).toArray) (results_cell_row rfl _ _ w.heap.size _ ([.string t, .int .i8 0, .int .i64 0, .string ⟨#[]⟩] : List Value).toArray _ _ rfl hb2 Tryz.underlying63 rfl hi3) rfl ?_
  exact ⟨rfl, OW⟩
set_option maxHeartbeats 1000000 in
theorem isTm_any (w : World) (hP : Pows w) : Calls Tryz.prog 140 #[.agg mkTm.toArray, .int .i64 777777] w fun e w' => e = .returned (.bool true) ∧ Fut w w' := by
  have HP := Lib.hid hP
  have HW := Lib.hid (fun w hP => word_any' w hP)
  unfold mkTm
  generalize wordS = t at HW ⊢
  have hbx := heap_alloc_new w (.cells ([.string t, .int .i8 0, .int .i64 0, .string ⟨#[]⟩] : List Value).toArray 63)
  have c0 := cell_at hbx 0 _ rfl
  have c1 := cell_at hbx 1 _ rfl
  have c2 := cell_at hbx 2 _ rfl
  have c3 := cell_at hbx 3 _ rfl
  skip
  clear hbx
  go_enter Tryz.func140, Tryz.ntmps140
  go_wp2
  refine wp_graph 6 [.d, .d, .d, .d, .d, .d] (by kernel_rfl) (by kernel_rfl) (by kernel_rfl) ?_
  simp only [List.take_succ_cons, List.take_zero, List.drop_succ_cons, List.drop_zero, Exs]
  iterate 6 apply Exists.intro
  apply Run.valG (wanted_none rfl _)
  · intro w1 h1 hk
    have q0 := h1.cell c0; have q1 := h1.cell c1; have q2 := h1.cell c2; have q3 := h1.cell c3
    have hcw := fun b o => Below.cell (p := ⟨b, o, none⟩) h1
    go_simp; rfl
  simp only [Act.put, List.setIfInBounds_toArray, List.set_cons_succ, List.set_cons_zero, List.nil_append, List.cons_append]
  apply Run.valG (wanted_none rfl _)
  · intro w1 h1 hk
    have q0 := h1.cell c0; have q1 := h1.cell c1; have q2 := h1.cell c2; have q3 := h1.cell c3
    have hcw := fun b o => Below.cell (p := ⟨b, o, none⟩) h1
    go_simp; rfl
  simp only [Act.put, List.setIfInBounds_toArray, List.set_cons_succ, List.set_cons_zero, List.nil_append, List.cons_append]
  apply Run.call (wanted_none rfl _) (fun _ _ => by go_simp; exact ⟨rfl, rfl⟩)
  · intro w1 h1 hk
    have q0 := h1.cell c0; have q1 := h1.cell c1; have q2 := h1.cell c2; have q3 := h1.cell c3
    exact HW.out _ (HP.out.fut (((Fut.alloc _ _).trans (Fut.drew _)).trans h1))
  simp only [Act.put, List.setIfInBounds_toArray, List.set_cons_succ, List.set_cons_zero, List.nil_append, List.cons_append]
  apply Run.valG (wanted_none rfl _)
  · intro w1 h1 hk
    have q0 := h1.cell c0; have q1 := h1.cell c1; have q2 := h1.cell c2; have q3 := h1.cell c3
    have hcw := fun b o => Below.cell (p := ⟨b, o, none⟩) h1
    go_simp; rfl
  simp only [Act.put, List.setIfInBounds_toArray, List.set_cons_succ, List.set_cons_zero, List.nil_append, List.cons_append]
  apply Run.valG (wanted_none rfl _)
  · intro w1 h1 hk
    have q0 := h1.cell c0; have q1 := h1.cell c1; have q2 := h1.cell c2; have q3 := h1.cell c3
    have hcw := fun b o => Below.cell (p := ⟨b, o, none⟩) h1
    go_simp; rfl
  simp only [Act.put, List.setIfInBounds_toArray, List.set_cons_succ, List.set_cons_zero, List.nil_append, List.cons_append]
  apply Run.valG (wanted_none rfl _)
  · intro w1 h1 hk
    have q0 := h1.cell c0; have q1 := h1.cell c1; have q2 := h1.cell c2; have q3 := h1.cell c3
    have hcw := fun b o => Below.cell (p := ⟨b, o, none⟩) h1
    go_simp; rfl
  simp only [Act.put, List.setIfInBounds_toArray, List.set_cons_succ, List.set_cons_zero, List.nil_append, List.cons_append]
  apply Run.done
  intro w2 h2 hk
  clear hk
  go_wp2
  go_ret
  exact ⟨by first | rfl | simp, (Fut.alloc _ _).trans ((Fut.drew _).trans h2)⟩
abbrev TwTm : Nat → World → Value → List Tm → Prop := TwinE 4 63 zTm (fun _ _ cs x => cs = Tm.cells x) (fun _ cs => cs = mkTm)
theorem TwTm.keep {B : Nat} {w w' : World} {v : Value} {xs : List Tm} (h : TwTm B w v xs) (hf : Fut w w') : TwTm B w' v xs := TwinE.fut (fun _ _ _ _ _ _ h => h) (fun _ _ _ _ h => h) h hf
set_option maxHeartbeats 2000000 in
theorem twinTm_any {M : Nat} (A : Option Addr) (c : Nat) (xs : List Tm) (w : World) (hP : Pows w) (h : SlRep 4 M RTm w (.slice A xs.length c) xs) (hn : xs.length ≤ 100000000) :
    Calls Tryz.prog 103 #[.slice A xs.length c] w fun e w' => ∃ v, e = .returned v ∧ TwTm w.heap.size w' v xs ∧ Fut w w' := by
  obtain ⟨i0, hi0, hz0, hz1, hz2⟩ := info_parts infoTm4
  have hmk : ∀ W : World, (Instr.makeSlice 54 (.int .i64 ((xs.length : Int) + 1)) (.int .i64 ((xs.length : Int) + 1))).run Tryz.prog W =
      .ok (.slice (some ⟨W.heap.size, 0, none⟩) (xs.length + 1) (xs.length + 1)) (W.alloc (.cells (madeCells zTm.toArray ((xs.length + 1) * 4)) 63)) := fun W => by
    have := run_make_rowN (P := Tryz.prog) 54 63 i0 _ Tryz.underlying54 hi0 hz0 .i64 .i64 (xs.length + 1) (xs.length + 1) (Nat.le_refl _) (by rw [hz2]; omega) (by omega) W
    rw [hz1] at this
    exact this
  have HB0 := Lib.hid (blk_madeK w zTm (xs.length + 1) 63 (by decide))
  have F0 := Lib.hid (Fut.alloc w (.cells (madeCells zTm.toArray ((xs.length + 1) * 4)) 63))
  have H := Lib.hid h
  have HP := Lib.hid hP
  have hxl : xs.length ≤ 9223372036854775807 := by omega
  have hiN := infoTmN
  clear h hP hi0 hz0 hz1 hz2
  go_enter Tryz.func103, Tryz.ntmps103
  go_wp2
  go_loopw [4] (fun i wr => ∃ k : Nat, k ≤ xs.length ∧ i = .int .i64 k ∧ Hid (BlkF wr w.heap.size 63 ((xs.length + 1) * 4) (cellsAt ((xs.take k).map Tm.cells) zTm 4)) ∧ Hid (Fut w wr)) (fun i _ => xs.length - (intOf i).toNat)
  case atStart => exact ⟨0, Nat.zero_le _, rfl, HB0, F0⟩
  case round =>
    obtain ⟨k, hk, rfl, hB, hF⟩ := hrel
    have hlen : ((xs.take k).map Tm.cells).length = k := by rw [List.length_map, List.length_take, Nat.min_eq_left hk]
    have hall : ∀ c ∈ (xs.take k).map Tm.cells, c.length = 4 := fun c hc => by
      obtain ⟨x, _, rfl⟩ := List.mem_map.1 hc
      rfl
    by_cases hlt : k < xs.length
    · have hltI : (k : Int) < xs.length := by omega
      have e0 : (0 : Int) ≤ k ∧ (k : Int) < xs.length := by omega
      have e1 : (0 : Int) ≤ k ∧ (k : Int) < xs.length + 1 := by omega
      obtain ⟨b', off, cs, rfl, hr, _, hcs⟩ := sl_row (H.out.fut RTm.stays hF.out) hlt
      obtain rfl := hr.cs
      have hnx := Lib.hid (take_map hlt Tm.cells)
      have hone := (xs[k]).one
      generalize xs[k] = z at *
      have hcs9 := Lib.hid hcs
      have hall9 := Lib.hid hall
      have hlen9 := Lib.hid hlen
      clear hcs hr hall hlen
      go_wp2_with (first | (show wpList _ _ _ (Oper.mk _ (Op.load _ _) _ _ _ _ :: _) _ _; refine wpList_load_mid rfl _ _ rfl b' (off + k * 4) rfl (Tm.cells z) _ hcs9.out Tryz.underlying63 rfl hiN ?_) | (show wpList _ _ _ (Oper.mk _ (Op.store _ _ _) _ _ _ _ :: _) _ _; refine wpList_storeK (Tm.cells z) rfl _ _ _ rfl rfl rfl hB.out hall9.out (by rw [hlen9.out]) (by rw [hlen9.out]; omega) rfl (by decide) hiN hone ?_; intro w2 hB2 hO2))
      have HB2 := Lib.hid (by rw [← hnx.out] at hB2; exact hB2)
      have HF2 := Lib.hid (((Only.fut (S := fun k => k = w.heap.size) hF.out).trans hO2).toFut fun k hk => by omega)
      clear hB2 hO2 hB hF
      go_wp2
      go_roundw
      case rel => exact ⟨k + 1, by omega, by go_num, HB2, HF2⟩
      case measure => simp [intOf] <;> omega
    · obtain rfl : k = xs.length := by omega
      have hMk := Lib.hid (markTm_any wr (HP.out.fut hF.out))
      have e1 : (0 : Int) ≤ xs.length ∧ (xs.length : Int) < xs.length + 1 := by omega
      have hall9 := Lib.hid hall
      have hlen9 := Lib.hid hlen
      have hone : ∀ v ∈ mkTm, v.oneCell' = true := fun v hv => by
        unfold mkTm at hv
        simp only [List.mem_cons, List.not_mem_nil, or_false] at hv
        rcases hv with (rfl|rfl|rfl|rfl) <;> rfl
      clear hall hlen
      go_wp2_with fail
      refine hMk.out.mono ?_
      rintro e w1 ⟨rfl, f1⟩
      have hB1 := Lib.hid (hB.out.fut f1)
      have hF1 := Lib.hid (hF.out.trans f1)
      clear f1 hB hF hMk
      go_wp2_with (first | (show wpList _ _ _ (Oper.mk _ (Op.store _ _ _) _ _ _ _ :: _) _ _; refine wpList_storeK mkTm rfl _ _ _ rfl rfl rfl hB1.out hall9.out (by rw [hlen9.out]) (by rw [hlen9.out]; omega) rfl (by decide) hiN hone ?_; intro w2 hB2 hO2))
      have HF2 := Lib.hid (((Only.fut (S := fun k => k = w.heap.size) hF1.out).trans hO2).toFut fun k hk => by omega)
      have HB2 := Lib.hid hB2
      clear hB2 hO2
      go_wp2
      go_ret
      refine ⟨_, rfl, ⟨w.heap.size, _, Nat.le_refl _, rfl, ?_, HB2.out, fun i x cs hx hc => ?_, fun cs hc => ?_⟩, HF2.out⟩
      · rw [List.length_append, hlen9.out]; rfl
      · have hi : i < xs.length := (List.getElem?_eq_some_iff.1 hx).1
        rw [List.getElem?_append_left (by rw [hlen9.out]; exact hi), List.take_length, List.getElem?_map, hx] at hc
        obtain rfl := Option.some.inj hc
        exact ⟨rfl, rfl⟩
      · rw [List.getElem?_append_right (by rw [hlen9.out]; exact Nat.le_refl _), hlen9.out, Nat.sub_self] at hc
        obtain rfl := Option.some.inj hc
        exact ⟨rfl, rfl⟩
set_option maxHeartbeats 1000000 in
theorem markAr_any (w : World) (hP : Pows w) : Calls Tryz.prog 54 #[.int .i64 777777] w fun e w' => e = .returned (.agg mkAr.toArray) ∧ Fut w w' := by
  have HW := Lib.hid (fun w hP => word_any' w hP)
  have hb0 := Lib.hid (blk_zero w zAr 85 (by decide))
  have f0 := Fut.alloc w (.cells zAr.toArray 85)
  unfold mkAr
  generalize wordS = t at HW ⊢
  go_enter Tryz.func54, Tryz.ntmps54
  go_wp2_with fail
  refine (HW.out _ (hP.fut f0)).mono ?_
  rintro e w1 ⟨rfl, h1⟩
  have hb1 := Lib.hid (hb0.out.fut h1)
  have F1 := Lib.hid (f0.trans h1)
  clear h1 f0
  have hi3 := infoArN
  go_wp2_with (first | (show wpList _ _ _ (Oper.mk _ (Op.store _ _ _) _ _ _ _ :: _) _ _; refine wpList_storeK ([.int .i8 0, .string t, .int .i8 0, .int .i64 0, .string ⟨#[]⟩] : List Value) rfl _ _ _ rfl rfl rfl hb1.out (fun c hc => (by cases hc)) rfl (by decide) rfl (by decide) hi3 (by intro v hv; simp only [List.mem_cons, List.not_mem_nil, or_false] at hv; rcases hv with (rfl|rfl|rfl|rfl|rfl) <;> rfl) ?_; intro w2 hB2 hO2))
  have hb2 := blk_one hB2 rfl
  have OW : Fut w w2 := ((Only.fut (S := fun k => k = w.heap.size) F1.out).trans hO2).toFut fun k hk => by omega
  refine bodyPost_ret (v := .agg ([.int .i8 0, .string t, .int .i8 0, .int .i64 0, .string ⟨#[]⟩] : List Value).toArray) (results_cell_row rfl _ _ w.heap.size _ ([.int .i8 0, .string t, .int .i8 0, .int .i64 0, .string ⟨#[]⟩] : List Value).toArray _ _ rfl hb2 Tryz.underlying85 rfl hi3) rfl ?_
  exact ⟨rfl, OW⟩
set_option maxHeartbeats 1000000 in
theorem isAr_any (w : World) (hP : Pows w) : Calls Tryz.prog 75 #[.agg mkAr.toArray, .int .i64 777777] w fun e w' => e = .returned (.bool true) ∧ Fut w w' := by
  have HP := Lib.hid hP
  have HW := Lib.hid (fun w hP => word_any' w hP)
  unfold mkAr
  generalize wordS = t at HW ⊢
  have hbx := heap_alloc_new w (.cells ([.int .i8 0, .string t, .int .i8 0, .int .i64 0, .string ⟨#[]⟩] : List Value).toArray 85)
  have c0 := cell_at hbx 0 _ rfl
  have c1 := cell_at hbx 1 _ rfl
  have c2 := cell_at hbx 2 _ rfl
  have c3 := cell_at hbx 3 _ rfl
  have c4 := cell_at hbx 4 _ rfl
  clear hbx
  go_enter Tryz.func75, Tryz.ntmps75
  go_wp2
  refine wp_graph 7 [.d, .d, .d, .d, .d, .d, .d] (by kernel_rfl) (by kernel_rfl) (by kernel_rfl) ?_
  simp only [List.take_succ_cons, List.take_zero, List.drop_succ_cons, List.drop_zero, Exs]
  iterate 7 apply Exists.intro
  apply Run.valG (wanted_none rfl _)
  · intro w1 h1 hk
    have q0 := h1.cell c0; have q1 := h1.cell c1; have q2 := h1.cell c2; have q3 := h1.cell c3; have q4 := h1.cell c4
    have hcw := fun b o => Below.cell (p := ⟨b, o, none⟩) h1
    go_simp; rfl
  simp only [Act.put, List.setIfInBounds_toArray, List.set_cons_succ, List.set_cons_zero, List.nil_append, List.cons_append]
  apply Run.valG (wanted_none rfl _)
  · intro w1 h1 hk
    have q0 := h1.cell c0; have q1 := h1.cell c1; have q2 := h1.cell c2; have q3 := h1.cell c3; have q4 := h1.cell c4
    have hcw := fun b o => Below.cell (p := ⟨b, o, none⟩) h1
    go_simp; rfl
  simp only [Act.put, List.setIfInBounds_toArray, List.set_cons_succ, List.set_cons_zero, List.nil_append, List.cons_append]
  apply Run.call (wanted_none rfl _) (fun _ _ => by go_simp; exact ⟨rfl, rfl⟩)
  · intro w1 h1 hk
    have q0 := h1.cell c0; have q1 := h1.cell c1; have q2 := h1.cell c2; have q3 := h1.cell c3; have q4 := h1.cell c4
    exact HW.out _ (HP.out.fut (((Fut.alloc _ _).trans (Fut.drew _)).trans h1))
  simp only [Act.put, List.setIfInBounds_toArray, List.set_cons_succ, List.set_cons_zero, List.nil_append, List.cons_append]
  apply Run.valG (wanted_none rfl _)
  · intro w1 h1 hk
    have q0 := h1.cell c0; have q1 := h1.cell c1; have q2 := h1.cell c2; have q3 := h1.cell c3; have q4 := h1.cell c4
    have hcw := fun b o => Below.cell (p := ⟨b, o, none⟩) h1
    go_simp; rfl
  simp only [Act.put, List.setIfInBounds_toArray, List.set_cons_succ, List.set_cons_zero, List.nil_append, List.cons_append]
  apply Run.valG (wanted_none rfl _)
  · intro w1 h1 hk
    have q0 := h1.cell c0; have q1 := h1.cell c1; have q2 := h1.cell c2; have q3 := h1.cell c3; have q4 := h1.cell c4
    have hcw := fun b o => Below.cell (p := ⟨b, o, none⟩) h1
    go_simp; rfl
  simp only [Act.put, List.setIfInBounds_toArray, List.set_cons_succ, List.set_cons_zero, List.nil_append, List.cons_append]
  apply Run.valG (wanted_none rfl _)
  · intro w1 h1 hk
    have q0 := h1.cell c0; have q1 := h1.cell c1; have q2 := h1.cell c2; have q3 := h1.cell c3; have q4 := h1.cell c4
    have hcw := fun b o => Below.cell (p := ⟨b, o, none⟩) h1
    go_simp; rfl
  simp only [Act.put, List.setIfInBounds_toArray, List.set_cons_succ, List.set_cons_zero, List.nil_append, List.cons_append]
  apply Run.valG (wanted_none rfl _)
  · intro w1 h1 hk
    have q0 := h1.cell c0; have q1 := h1.cell c1; have q2 := h1.cell c2; have q3 := h1.cell c3; have q4 := h1.cell c4
    have hcw := fun b o => Below.cell (p := ⟨b, o, none⟩) h1
    go_simp; rfl
  simp only [Act.put, List.setIfInBounds_toArray, List.set_cons_succ, List.set_cons_zero, List.nil_append, List.cons_append]
  apply Run.done
  intro w2 h2 hk
  clear hk
  go_wp2
  go_ret
  exact ⟨by first | rfl | simp, (Fut.alloc _ _).trans ((Fut.drew _).trans h2)⟩
abbrev TwAr : Nat → World → Value → List Ar → Prop := TwinE 5 85 zAr (fun _ _ cs x => cs = Ar.cells x) (fun _ cs => cs = mkAr)
theorem TwAr.keep {B : Nat} {w w' : World} {v : Value} {xs : List Ar} (h : TwAr B w v xs) (hf : Fut w w') : TwAr B w' v xs := TwinE.fut (fun _ _ _ _ _ _ h => h) (fun _ _ _ _ h => h) h hf
set_option maxHeartbeats 2000000 in
theorem twinAr_any {M : Nat} (A : Option Addr) (c : Nat) (xs : List Ar) (w : World) (hP : Pows w) (h : SlRep 5 M RAr w (.slice A xs.length c) xs) (hn : xs.length ≤ 100000000) :
    Calls Tryz.prog 31 #[.slice A xs.length c] w fun e w' => ∃ v, e = .returned v ∧ TwAr w.heap.size w' v xs ∧ Fut w w' := by
  obtain ⟨i0, hi0, hz0, hz1, hz2⟩ := info_parts infoAr5
  have hmk : ∀ W : World, (Instr.makeSlice 26 (.int .i64 ((xs.length : Int) + 1)) (.int .i64 ((xs.length : Int) + 1))).run Tryz.prog W =
      .ok (.slice (some ⟨W.heap.size, 0, none⟩) (xs.length + 1) (xs.length + 1)) (W.alloc (.cells (madeCells zAr.toArray ((xs.length + 1) * 5)) 85)) := fun W => by
    have := run_make_rowN (P := Tryz.prog) 26 85 i0 _ Tryz.underlying26 hi0 hz0 .i64 .i64 (xs.length + 1) (xs.length + 1) (Nat.le_refl _) (by rw [hz2]; omega) (by omega) W
    rw [hz1] at this
    exact this
  have HB0 := Lib.hid (blk_madeK w zAr (xs.length + 1) 85 (by decide))
  have F0 := Lib.hid (Fut.alloc w (.cells (madeCells zAr.toArray ((xs.length + 1) * 5)) 85))
  have H := Lib.hid h
  have HP := Lib.hid hP
  have hxl : xs.length ≤ 9223372036854775807 := by omega
  have hiN := infoArN
  clear h hP hi0 hz0 hz1 hz2
  go_enter Tryz.func31, Tryz.ntmps31
  go_wp2
  go_loopw [4] (fun i wr => ∃ k : Nat, k ≤ xs.length ∧ i = .int .i64 k ∧ Hid (BlkF wr w.heap.size 85 ((xs.length + 1) * 5) (cellsAt ((xs.take k).map Ar.cells) zAr 5)) ∧ Hid (Fut w wr)) (fun i _ => xs.length - (intOf i).toNat)
  case atStart => exact ⟨0, Nat.zero_le _, rfl, HB0, F0⟩
  case round =>
    obtain ⟨k, hk, rfl, hB, hF⟩ := hrel
    have hlen : ((xs.take k).map Ar.cells).length = k := by rw [List.length_map, List.length_take, Nat.min_eq_left hk]
    have hall : ∀ c ∈ (xs.take k).map Ar.cells, c.length = 5 := fun c hc => by
      obtain ⟨x, _, rfl⟩ := List.mem_map.1 hc
      rfl
    by_cases hlt : k < xs.length
    · have hltI : (k : Int) < xs.length := by omega
      have e0 : (0 : Int) ≤ k ∧ (k : Int) < xs.length := by omega
      have e1 : (0 : Int) ≤ k ∧ (k : Int) < xs.length + 1 := by omega
      obtain ⟨b', off, cs, rfl, hr, _, hcs⟩ := sl_row (H.out.fut RAr.stays hF.out) hlt
      obtain rfl := hr.cs
      have hnx := Lib.hid (take_map hlt Ar.cells)
      have hone := (xs[k]).one
      generalize xs[k] = z at *
      have hcs9 := Lib.hid hcs
      have hall9 := Lib.hid hall
      have hlen9 := Lib.hid hlen
      clear hcs hr hall hlen
      go_wp2_with (first | (show wpList _ _ _ (Oper.mk _ (Op.load _ _) _ _ _ _ :: _) _ _; refine wpList_load_mid rfl _ _ rfl b' (off + k * 5) rfl (Ar.cells z) _ hcs9.out Tryz.underlying85 rfl hiN ?_) | (show wpList _ _ _ (Oper.mk _ (Op.store _ _ _) _ _ _ _ :: _) _ _; refine wpList_storeK (Ar.cells z) rfl _ _ _ rfl rfl rfl hB.out hall9.out (by rw [hlen9.out]) (by rw [hlen9.out]; omega) rfl (by decide) hiN hone ?_; intro w2 hB2 hO2))
      have HB2 := Lib.hid (by rw [← hnx.out] at hB2; exact hB2)
      have HF2 := Lib.hid (((Only.fut (S := fun k => k = w.heap.size) hF.out).trans hO2).toFut fun k hk => by omega)
      clear hB2 hO2 hB hF
      go_wp2
      go_roundw
      case rel => exact ⟨k + 1, by omega, by go_num, HB2, HF2⟩
      case measure => simp [intOf] <;> omega
    · obtain rfl : k = xs.length := by omega
      have hMk := Lib.hid (markAr_any wr (HP.out.fut hF.out))
      have e1 : (0 : Int) ≤ xs.length ∧ (xs.length : Int) < xs.length + 1 := by omega
      have hall9 := Lib.hid hall
      have hlen9 := Lib.hid hlen
      have hone : ∀ v ∈ mkAr, v.oneCell' = true := fun v hv => by
        unfold mkAr at hv
        simp only [List.mem_cons, List.not_mem_nil, or_false] at hv
        rcases hv with (rfl|rfl|rfl|rfl|rfl) <;> rfl
      clear hall hlen
      go_wp2_with fail
      refine hMk.out.mono ?_
      rintro e w1 ⟨rfl, f1⟩
      have hB1 := Lib.hid (hB.out.fut f1)
      have hF1 := Lib.hid (hF.out.trans f1)
      clear f1 hB hF hMk
      go_wp2_with (first | (show wpList _ _ _ (Oper.mk _ (Op.store _ _ _) _ _ _ _ :: _) _ _; refine wpList_storeK mkAr rfl _ _ _ rfl rfl rfl hB1.out hall9.out (by rw [hlen9.out]) (by rw [hlen9.out]; omega) rfl (by decide) hiN hone ?_; intro w2 hB2 hO2))
      have HF2 := Lib.hid (((Only.fut (S := fun k => k = w.heap.size) hF1.out).trans hO2).toFut fun k hk => by omega)
      have HB2 := Lib.hid hB2
      clear hB2 hO2
      go_wp2
      go_ret
      refine ⟨_, rfl, ⟨w.heap.size, _, Nat.le_refl _, rfl, ?_, HB2.out, fun i x cs hx hc => ?_, fun cs hc => ?_⟩, HF2.out⟩
      · rw [List.length_append, hlen9.out]; rfl
      · have hi : i < xs.length := (List.getElem?_eq_some_iff.1 hx).1
        rw [List.getElem?_append_left (by rw [hlen9.out]; exact hi), List.take_length, List.getElem?_map, hx] at hc
        obtain rfl := Option.some.inj hc
        exact ⟨rfl, rfl⟩
      · rw [List.getElem?_append_right (by rw [hlen9.out]; exact Nat.le_refl _), hlen9.out, Nat.sub_self] at hc
        obtain rfl := Option.some.inj hc
        exact ⟨rfl, rfl⟩
end Go.Proofs.YtgcgmbegkfaifaaGreatDoor
/- Is a copy of a list of terms, of heads' terms, still that: SameTerms, LeftTerms, SameArgs, LeftArgs. -/
namespace Go.Proofs.YtgcgmbegkfaifaaGreatDoor
open Go.RowKit
set_option linter.unusedSimpArgs false
set_option linter.unusedVariables false

theorem sl_each {α : Type} {sz M : Nat} {R : World → List Value → α → Prop} {w : World} {v : Value} {xs : List α} (h : SlRep sz M R w v xs) : ∀ x ∈ xs, ∃ cs, R w cs x := fun x hx => by
  obtain ⟨A, cap, _, _, _, h3⟩ := h
  obtain ⟨i, hi⟩ := List.getElem?_of_mem hx
  obtain ⟨_, _, cs, _, _, _, hr⟩ := h3 i x hi
  exact ⟨cs, hr⟩
theorem TwinE.mark {α : Type} {sz : Nat} {e : TypeId} {z mk : List Value} {RE : Nat → World → List Value → α → Prop} {B : Nat} {w : World} {v : Value} {xs : List α} (h : TwinE sz e z RE (fun _ cs => cs = mk) B w v xs) (hm : mk.length = sz) (hsz : 0 < sz) :
    ∃ g, B ≤ g ∧ v = .slice (some ⟨g, 0, none⟩) xs.length (xs.length + 1) ∧ ∀ j u, mk[j]? = some u → w.cell? ⟨g, xs.length * sz + j, none⟩ = some u := by
  obtain ⟨g, css, h1, h2, h3, h4, h5, h6⟩ := h
  refine ⟨g, h1, h2, fun j u hj => ?_⟩
  have hc : css[xs.length]? = some (css[xs.length]'(by omega)) := List.getElem?_eq_getElem (by omega)
  have hjl : j < sz := by rw [← hm]; exact (List.getElem?_eq_some_iff.1 hj).1
  have he := (h6 _ hc).2
  rw [h4.cell (by rw [Nat.add_mul]; omega), cellsAt_get (cs := mk) (by rw [hc, he]) hj hjl]
theorem TwTm.rep {M B : Nat} {w w0 : World} {v a : Value} {xs : List Tm} (h : TwTm B w v xs) (hr : SlRep 4 M RTm w0 a xs) : SlRep 4 (xs.length + 1) RTm w v xs :=
  TwinE.rep h (fun g cs x hx he => by
    obtain ⟨cs', h9⟩ := sl_each hr x hx
    exact ⟨he, h9.2⟩) (Nat.le_refl _)
set_option maxHeartbeats 2000000 in
theorem sameTm_any {M M' : Nat} (A B : Option Addr) (c d : Nat) (xs : List Tm) (w : World) (ha : SlRep 4 M RTm w (.slice A xs.length c) xs) (hb : SlRep 4 M' RTm w (.slice B xs.length d) xs) (hn : xs.length ≤ 100000000) :
    Calls Tryz.prog 139 #[.slice A xs.length c, .slice B xs.length d] w fun e w' => e = .returned (.bool true) ∧ Fut w w' := by
  have HA := Lib.hid ha
  have HB := Lib.hid hb
  have hxl : xs.length ≤ 9223372036854775807 := by omega
  clear ha hb
  go_enter Tryz.func139, Tryz.ntmps139
  go_wp2
  go_loopw [5] (fun i wr => ∃ k : Nat, k ≤ xs.length ∧ i = .int .i64 k ∧ Hid (Fut w wr)) (fun i _ => xs.length - (intOf i).toNat)
  case atStart => exact ⟨0, Nat.zero_le _, rfl, Lib.hid (Fut.refl _)⟩
  case round =>
    obtain ⟨k, hk, rfl, hF⟩ := hrel
    by_cases hlt : k < xs.length
    · have hltI : (k : Int) < xs.length := by omega
      have e0 : (0 : Int) ≤ k ∧ (k : Int) < xs.length := by omega
      obtain ⟨b1, o1, cs1, rfl, hr1, _, hc1⟩ := sl_row HA.out hlt
      obtain ⟨b2, o2, cs2, rfl, hr2, _, hc2⟩ := sl_row HB.out hlt
      obtain rfl := hr1.cs
      obtain rfl := hr2.cs
      generalize xs[k] = z at *
      have FW := hF.out
      have s0 := FW.cell (show w.cell? ⟨b1, o1 + k * 4, none⟩ = some _ from hc1 0 _ rfl)
      have s1 := FW.cell (show w.cell? ⟨b1, o1 + k * 4 + 1, none⟩ = some _ from hc1 1 _ rfl)
      have s2 := FW.cell (show w.cell? ⟨b1, o1 + k * 4 + 2, none⟩ = some _ from hc1 2 _ rfl)
      have s3 := FW.cell (show w.cell? ⟨b1, o1 + k * 4 + 3, none⟩ = some _ from hc1 3 _ rfl)
      
      have t0 := FW.cell (show w.cell? ⟨b2, o2 + k * 4, none⟩ = some _ from hc2 0 _ rfl)
      have t1 := FW.cell (show w.cell? ⟨b2, o2 + k * 4 + 1, none⟩ = some _ from hc2 1 _ rfl)
      have t2 := FW.cell (show w.cell? ⟨b2, o2 + k * 4 + 2, none⟩ = some _ from hc2 2 _ rfl)
      have t3 := FW.cell (show w.cell? ⟨b2, o2 + k * 4 + 3, none⟩ = some _ from hc2 3 _ rfl)
      
      clear FW hc1 hc2 hr1 hr2
      go_wp2
      refine wp_graph 9 [.d, .d, .d, .d, .d, .d, .d, .d, .d] (by kernel_rfl) (by kernel_rfl) (by kernel_rfl) ?_
      simp only [List.take_succ_cons, List.take_zero, List.drop_succ_cons, List.drop_zero, Exs]
      iterate 9 apply Exists.intro
      apply Run.valG (wanted_none rfl _)
      · intro w1 h1 hk
        have r0 := h1.cell s0; have r1 := h1.cell s1; have r2 := h1.cell s2; have r3 := h1.cell s3; have r4 := h1.cell t0; have r5 := h1.cell t1; have r6 := h1.cell t2; have r7 := h1.cell t3
        have hcw := fun b o => Below.cell (p := ⟨b, o, none⟩) h1
        go_simp; rfl
      simp only [Act.put, List.setIfInBounds_toArray, List.set_cons_succ, List.set_cons_zero, List.nil_append, List.cons_append]
      apply Run.valG (wanted_none rfl _)
      · intro w1 h1 hk
        have r0 := h1.cell s0; have r1 := h1.cell s1; have r2 := h1.cell s2; have r3 := h1.cell s3; have r4 := h1.cell t0; have r5 := h1.cell t1; have r6 := h1.cell t2; have r7 := h1.cell t3
        have hcw := fun b o => Below.cell (p := ⟨b, o, none⟩) h1
        go_simp; rfl
      simp only [Act.put, List.setIfInBounds_toArray, List.set_cons_succ, List.set_cons_zero, List.nil_append, List.cons_append]
      apply Run.valG (wanted_none rfl _)
      · intro w1 h1 hk
        have r0 := h1.cell s0; have r1 := h1.cell s1; have r2 := h1.cell s2; have r3 := h1.cell s3; have r4 := h1.cell t0; have r5 := h1.cell t1; have r6 := h1.cell t2; have r7 := h1.cell t3
        have hcw := fun b o => Below.cell (p := ⟨b, o, none⟩) h1
        go_simp; rfl
      simp only [Act.put, List.setIfInBounds_toArray, List.set_cons_succ, List.set_cons_zero, List.nil_append, List.cons_append]
      apply Run.valG (wanted_none rfl _)
      · intro w1 h1 hk
        have r0 := h1.cell s0; have r1 := h1.cell s1; have r2 := h1.cell s2; have r3 := h1.cell s3; have r4 := h1.cell t0; have r5 := h1.cell t1; have r6 := h1.cell t2; have r7 := h1.cell t3
        have hcw := fun b o => Below.cell (p := ⟨b, o, none⟩) h1
        go_simp; rfl
      simp only [Act.put, List.setIfInBounds_toArray, List.set_cons_succ, List.set_cons_zero, List.nil_append, List.cons_append]
      apply Run.valG (wanted_none rfl _)
      · intro w1 h1 hk
        have r0 := h1.cell s0; have r1 := h1.cell s1; have r2 := h1.cell s2; have r3 := h1.cell s3; have r4 := h1.cell t0; have r5 := h1.cell t1; have r6 := h1.cell t2; have r7 := h1.cell t3
        have hcw := fun b o => Below.cell (p := ⟨b, o, none⟩) h1
        go_simp; rfl
      simp only [Act.put, List.setIfInBounds_toArray, List.set_cons_succ, List.set_cons_zero, List.nil_append, List.cons_append]
      apply Run.valG (wanted_none rfl _)
      · intro w1 h1 hk
        have r0 := h1.cell s0; have r1 := h1.cell s1; have r2 := h1.cell s2; have r3 := h1.cell s3; have r4 := h1.cell t0; have r5 := h1.cell t1; have r6 := h1.cell t2; have r7 := h1.cell t3
        have hcw := fun b o => Below.cell (p := ⟨b, o, none⟩) h1
        go_simp; rfl
      simp only [Act.put, List.setIfInBounds_toArray, List.set_cons_succ, List.set_cons_zero, List.nil_append, List.cons_append]
      apply Run.valG (wanted_none rfl _)
      · intro w1 h1 hk
        have r0 := h1.cell s0; have r1 := h1.cell s1; have r2 := h1.cell s2; have r3 := h1.cell s3; have r4 := h1.cell t0; have r5 := h1.cell t1; have r6 := h1.cell t2; have r7 := h1.cell t3
        have hcw := fun b o => Below.cell (p := ⟨b, o, none⟩) h1
        go_simp; rfl
      simp only [Act.put, List.setIfInBounds_toArray, List.set_cons_succ, List.set_cons_zero, List.nil_append, List.cons_append]
      apply Run.valG (wanted_none rfl _)
      · intro w1 h1 hk
        have r0 := h1.cell s0; have r1 := h1.cell s1; have r2 := h1.cell s2; have r3 := h1.cell s3; have r4 := h1.cell t0; have r5 := h1.cell t1; have r6 := h1.cell t2; have r7 := h1.cell t3
        have hcw := fun b o => Below.cell (p := ⟨b, o, none⟩) h1
        go_simp; rfl
      simp only [Act.put, List.setIfInBounds_toArray, List.set_cons_succ, List.set_cons_zero, List.nil_append, List.cons_append]
      apply Run.valG (wanted_none rfl _)
      · intro w1 h1 hk
        have r0 := h1.cell s0; have r1 := h1.cell s1; have r2 := h1.cell s2; have r3 := h1.cell s3; have r4 := h1.cell t0; have r5 := h1.cell t1; have r6 := h1.cell t2; have r7 := h1.cell t3
        have hcw := fun b o => Below.cell (p := ⟨b, o, none⟩) h1
        go_simp; rfl
      simp only [Act.put, List.setIfInBounds_toArray, List.set_cons_succ, List.set_cons_zero, List.nil_append, List.cons_append]
      apply Run.done
      intro w2 h2 hk
      clear hk
      have F9 := Lib.hid (hF.out.trans ((Fut.drew _).trans h2))
      clear h2
      go_wp2
      go_roundw
      case rel => exact ⟨k + 1, by omega, by go_num, F9⟩
      case measure => simp [intOf] <;> omega
    · obtain rfl : k = xs.length := by omega
      go_wp2
      go_ret
      exact ⟨rfl, hF.out⟩
set_option maxHeartbeats 2000000 in
theorem leftTm_any {M B : Nat} (t a : Value) (xs : List Tm) (w : World) (hP : Pows w) (ht : TwTm B w t xs) (ha : SlRep 4 M RTm w a xs) (hn : xs.length ≤ 100000000) :
    Calls Tryz.prog 118 #[t, a] w fun e w' => e = .returned (.bool true) ∧ Fut w w' := by
  obtain ⟨g, _, rfl, hmk⟩ := TwinE.mark ht rfl (by decide)
  obtain ⟨A, c, rfl, hc1, hc2⟩ := ha.form
  have HS := Lib.hid (sameTm_any _ A _ c xs w (ht.rep ha) ha hn)
  have HI := Lib.hid (fun W hW => isTm_any W hW)
  have hmk9 := Lib.hid hmk
  have hP9 := Lib.hid hP
  have hxl : xs.length ≤ 9223372036854775807 := by omega
  have hiN := infoTmN
  have e1 : (0 : Int) ≤ xs.length ∧ (xs.length : Int) < xs.length + 1 := by omega
  clear ht ha hmk hP
  go_enter Tryz.func118, Tryz.ntmps118
  go_wp2_with fail
  refine HS.out.mono ?_
  rintro e w1 ⟨rfl, f1⟩
  have hcs9 := Lib.hid (fun j u (hj : mkTm[j]? = some u) => f1.cell (hmk9.out j u hj))
  have F1 := Lib.hid f1
  clear f1 HS
  go_wp2_with (first | (show wpList _ _ _ (Oper.mk _ (Op.load _ _) _ _ _ _ :: _) _ _; refine wpList_loadG (by go_simp) _ _ rfl g (xs.length * 4) rfl mkTm _ hcs9.out Tryz.underlying63 rfl hiN ?_))
  refine (HI.out _ (hP9.out.fut F1.out)).mono ?_
  rintro e w2 ⟨rfl, f2⟩
  have F2 := F1.out.trans f2
  clear f2
  go_wp2
  go_ret
  exact ⟨rfl, F2⟩
theorem TwAr.rep {M B : Nat} {w w0 : World} {v a : Value} {xs : List Ar} (h : TwAr B w v xs) (hr : SlRep 5 M RAr w0 a xs) : SlRep 5 (xs.length + 1) RAr w v xs :=
  TwinE.rep h (fun g cs x hx he => by
    obtain ⟨cs', h9⟩ := sl_each hr x hx
    exact ⟨he, h9.2⟩) (Nat.le_refl _)
set_option maxHeartbeats 2000000 in
theorem sameAr_any {M M' : Nat} (A B : Option Addr) (c d : Nat) (xs : List Ar) (w : World) (ha : SlRep 5 M RAr w (.slice A xs.length c) xs) (hb : SlRep 5 M' RAr w (.slice B xs.length d) xs) (hn : xs.length ≤ 100000000) :
    Calls Tryz.prog 74 #[.slice A xs.length c, .slice B xs.length d] w fun e w' => e = .returned (.bool true) ∧ Fut w w' := by
  have HA := Lib.hid ha
  have HB := Lib.hid hb
  have hxl : xs.length ≤ 9223372036854775807 := by omega
  clear ha hb
  go_enter Tryz.func74, Tryz.ntmps74
  go_wp2
  go_loopw [5] (fun i wr => ∃ k : Nat, k ≤ xs.length ∧ i = .int .i64 k ∧ Hid (Fut w wr)) (fun i _ => xs.length - (intOf i).toNat)
  case atStart => exact ⟨0, Nat.zero_le _, rfl, Lib.hid (Fut.refl _)⟩
  case round =>
    obtain ⟨k, hk, rfl, hF⟩ := hrel
    by_cases hlt : k < xs.length
    · have hltI : (k : Int) < xs.length := by omega
      have e0 : (0 : Int) ≤ k ∧ (k : Int) < xs.length := by omega
      obtain ⟨b1, o1, cs1, rfl, hr1, _, hc1⟩ := sl_row HA.out hlt
      obtain ⟨b2, o2, cs2, rfl, hr2, _, hc2⟩ := sl_row HB.out hlt
      obtain rfl := hr1.cs
      obtain rfl := hr2.cs
      generalize xs[k] = z at *
      have FW := hF.out
      have s0 := FW.cell (show w.cell? ⟨b1, o1 + k * 5, none⟩ = some _ from hc1 0 _ rfl)
      have s1 := FW.cell (show w.cell? ⟨b1, o1 + k * 5 + 1, none⟩ = some _ from hc1 1 _ rfl)
      have s2 := FW.cell (show w.cell? ⟨b1, o1 + k * 5 + 2, none⟩ = some _ from hc1 2 _ rfl)
      have s3 := FW.cell (show w.cell? ⟨b1, o1 + k * 5 + 3, none⟩ = some _ from hc1 3 _ rfl)
      have s4 := FW.cell (show w.cell? ⟨b1, o1 + k * 5 + 4, none⟩ = some _ from hc1 4 _ rfl)
      have t0 := FW.cell (show w.cell? ⟨b2, o2 + k * 5, none⟩ = some _ from hc2 0 _ rfl)
      have t1 := FW.cell (show w.cell? ⟨b2, o2 + k * 5 + 1, none⟩ = some _ from hc2 1 _ rfl)
      have t2 := FW.cell (show w.cell? ⟨b2, o2 + k * 5 + 2, none⟩ = some _ from hc2 2 _ rfl)
      have t3 := FW.cell (show w.cell? ⟨b2, o2 + k * 5 + 3, none⟩ = some _ from hc2 3 _ rfl)
      have t4 := FW.cell (show w.cell? ⟨b2, o2 + k * 5 + 4, none⟩ = some _ from hc2 4 _ rfl)
      clear FW hc1 hc2 hr1 hr2
      go_wp2
      refine wp_graph 9 [.d, .d, .d, .d, .d, .d, .d, .d, .d] (by kernel_rfl) (by kernel_rfl) (by kernel_rfl) ?_
      simp only [List.take_succ_cons, List.take_zero, List.drop_succ_cons, List.drop_zero, Exs]
      iterate 9 apply Exists.intro
      apply Run.valG (wanted_none rfl _)
      · intro w1 h1 hk
        have r0 := h1.cell s0; have r1 := h1.cell s1; have r2 := h1.cell s2; have r3 := h1.cell s3; have r4 := h1.cell t0; have r5 := h1.cell t1; have r6 := h1.cell t2; have r7 := h1.cell t3; have r8 := h1.cell s4; have r9 := h1.cell t4
        have hcw := fun b o => Below.cell (p := ⟨b, o, none⟩) h1
        go_simp; rfl
      simp only [Act.put, List.setIfInBounds_toArray, List.set_cons_succ, List.set_cons_zero, List.nil_append, List.cons_append]
      apply Run.valG (wanted_none rfl _)
      · intro w1 h1 hk
        have r0 := h1.cell s0; have r1 := h1.cell s1; have r2 := h1.cell s2; have r3 := h1.cell s3; have r4 := h1.cell t0; have r5 := h1.cell t1; have r6 := h1.cell t2; have r7 := h1.cell t3; have r8 := h1.cell s4; have r9 := h1.cell t4
        have hcw := fun b o => Below.cell (p := ⟨b, o, none⟩) h1
        go_simp; rfl
      simp only [Act.put, List.setIfInBounds_toArray, List.set_cons_succ, List.set_cons_zero, List.nil_append, List.cons_append]
      apply Run.valG (wanted_none rfl _)
      · intro w1 h1 hk
        have r0 := h1.cell s0; have r1 := h1.cell s1; have r2 := h1.cell s2; have r3 := h1.cell s3; have r4 := h1.cell t0; have r5 := h1.cell t1; have r6 := h1.cell t2; have r7 := h1.cell t3; have r8 := h1.cell s4; have r9 := h1.cell t4
        have hcw := fun b o => Below.cell (p := ⟨b, o, none⟩) h1
        go_simp; rfl
      simp only [Act.put, List.setIfInBounds_toArray, List.set_cons_succ, List.set_cons_zero, List.nil_append, List.cons_append]
      apply Run.valG (wanted_none rfl _)
      · intro w1 h1 hk
        have r0 := h1.cell s0; have r1 := h1.cell s1; have r2 := h1.cell s2; have r3 := h1.cell s3; have r4 := h1.cell t0; have r5 := h1.cell t1; have r6 := h1.cell t2; have r7 := h1.cell t3; have r8 := h1.cell s4; have r9 := h1.cell t4
        have hcw := fun b o => Below.cell (p := ⟨b, o, none⟩) h1
        go_simp; rfl
      simp only [Act.put, List.setIfInBounds_toArray, List.set_cons_succ, List.set_cons_zero, List.nil_append, List.cons_append]
      apply Run.valG (wanted_none rfl _)
      · intro w1 h1 hk
        have r0 := h1.cell s0; have r1 := h1.cell s1; have r2 := h1.cell s2; have r3 := h1.cell s3; have r4 := h1.cell t0; have r5 := h1.cell t1; have r6 := h1.cell t2; have r7 := h1.cell t3; have r8 := h1.cell s4; have r9 := h1.cell t4
        have hcw := fun b o => Below.cell (p := ⟨b, o, none⟩) h1
        go_simp; rfl
      simp only [Act.put, List.setIfInBounds_toArray, List.set_cons_succ, List.set_cons_zero, List.nil_append, List.cons_append]
      apply Run.valG (wanted_none rfl _)
      · intro w1 h1 hk
        have r0 := h1.cell s0; have r1 := h1.cell s1; have r2 := h1.cell s2; have r3 := h1.cell s3; have r4 := h1.cell t0; have r5 := h1.cell t1; have r6 := h1.cell t2; have r7 := h1.cell t3; have r8 := h1.cell s4; have r9 := h1.cell t4
        have hcw := fun b o => Below.cell (p := ⟨b, o, none⟩) h1
        go_simp; rfl
      simp only [Act.put, List.setIfInBounds_toArray, List.set_cons_succ, List.set_cons_zero, List.nil_append, List.cons_append]
      apply Run.valG (wanted_none rfl _)
      · intro w1 h1 hk
        have r0 := h1.cell s0; have r1 := h1.cell s1; have r2 := h1.cell s2; have r3 := h1.cell s3; have r4 := h1.cell t0; have r5 := h1.cell t1; have r6 := h1.cell t2; have r7 := h1.cell t3; have r8 := h1.cell s4; have r9 := h1.cell t4
        have hcw := fun b o => Below.cell (p := ⟨b, o, none⟩) h1
        go_simp; rfl
      simp only [Act.put, List.setIfInBounds_toArray, List.set_cons_succ, List.set_cons_zero, List.nil_append, List.cons_append]
      apply Run.valG (wanted_none rfl _)
      · intro w1 h1 hk
        have r0 := h1.cell s0; have r1 := h1.cell s1; have r2 := h1.cell s2; have r3 := h1.cell s3; have r4 := h1.cell t0; have r5 := h1.cell t1; have r6 := h1.cell t2; have r7 := h1.cell t3; have r8 := h1.cell s4; have r9 := h1.cell t4
        have hcw := fun b o => Below.cell (p := ⟨b, o, none⟩) h1
        go_simp; rfl
      simp only [Act.put, List.setIfInBounds_toArray, List.set_cons_succ, List.set_cons_zero, List.nil_append, List.cons_append]
      apply Run.valG (wanted_none rfl _)
      · intro w1 h1 hk
        have r0 := h1.cell s0; have r1 := h1.cell s1; have r2 := h1.cell s2; have r3 := h1.cell s3; have r4 := h1.cell t0; have r5 := h1.cell t1; have r6 := h1.cell t2; have r7 := h1.cell t3; have r8 := h1.cell s4; have r9 := h1.cell t4
        have hcw := fun b o => Below.cell (p := ⟨b, o, none⟩) h1
        go_simp; rfl
      simp only [Act.put, List.setIfInBounds_toArray, List.set_cons_succ, List.set_cons_zero, List.nil_append, List.cons_append]
      apply Run.done
      intro w2 h2 hk
      clear hk
      have F9 := Lib.hid (hF.out.trans ((Fut.drew _).trans h2))
      clear h2
      go_wp2
      go_roundw
      case rel => exact ⟨k + 1, by omega, by go_num, F9⟩
      case measure => simp [intOf] <;> omega
    · obtain rfl : k = xs.length := by omega
      go_wp2
      go_ret
      exact ⟨rfl, hF.out⟩
set_option maxHeartbeats 2000000 in
theorem leftAr_any {M B : Nat} (t a : Value) (xs : List Ar) (w : World) (hP : Pows w) (ht : TwAr B w t xs) (ha : SlRep 5 M RAr w a xs) (hn : xs.length ≤ 100000000) :
    Calls Tryz.prog 48 #[t, a] w fun e w' => e = .returned (.bool true) ∧ Fut w w' := by
  obtain ⟨g, _, rfl, hmk⟩ := TwinE.mark ht rfl (by decide)
  obtain ⟨A, c, rfl, hc1, hc2⟩ := ha.form
  have HS := Lib.hid (sameAr_any _ A _ c xs w (ht.rep ha) ha hn)
  have HI := Lib.hid (fun W hW => isAr_any W hW)
  have hmk9 := Lib.hid hmk
  have hP9 := Lib.hid hP
  have hxl : xs.length ≤ 9223372036854775807 := by omega
  have hiN := infoArN
  have e1 : (0 : Int) ≤ xs.length ∧ (xs.length : Int) < xs.length + 1 := by omega
  clear ht ha hmk hP
  go_enter Tryz.func48, Tryz.ntmps48
  go_wp2_with fail
  refine HS.out.mono ?_
  rintro e w1 ⟨rfl, f1⟩
  have hcs9 := Lib.hid (fun j u (hj : mkAr[j]? = some u) => f1.cell (hmk9.out j u hj))
  have F1 := Lib.hid f1
  clear f1 HS
  go_wp2_with (first | (show wpList _ _ _ (Oper.mk _ (Op.load _ _) _ _ _ _ :: _) _ _; refine wpList_loadG (by go_simp) _ _ rfl g (xs.length * 5) rfl mkAr _ hcs9.out Tryz.underlying85 rfl hiN ?_))
  refine (HI.out _ (hP9.out.fut F1.out)).mono ?_
  rintro e w2 ⟨rfl, f2⟩
  have F2 := F1.out.trans f2
  clear f2
  go_wp2
  go_ret
  exact ⟨rfl, F2⟩
end Go.Proofs.YtgcgmbegkfaifaaGreatDoor
