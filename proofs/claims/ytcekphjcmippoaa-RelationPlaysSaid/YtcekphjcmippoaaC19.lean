/- BothJ, OpB, OnL -/
import Derived.Test.YtcekphjcmippoaaC18
/- asks, whatever is asked; does, where asks is asked. -/
namespace Go.Proofs.Ytcekphjcmippoaa
open Go.RowKit Go.WideMaps
set_option linter.unusedSimpArgs false
set_option linter.unusedVariables false

def OpAt (w : World) (b off : Nat) (o : OpL) : Prop := ∀ j c, o.cells[j]? = some c → w.cell? ⟨b, off + j, none⟩ = some c
theorem OpAt.fut {w w' : World} {b off : Nat} {o : OpL} (h : OpAt w b off o) (hf : Fut w w') : OpAt w' b off o := fun j c hj => hf.cell (h j c hj)
theorem OpAt.new (w : World) (t : TypeId) (o : OpL) : OpAt (w.alloc (.cells o.cells.toArray t)) w.heap.size 0 o := fun j c hj => by
  rw [Nat.zero_add]
  exact cell_at (heap_alloc_new w _) j c (by simpa using hj)
theorem exec_load_Op {w : World} {op : Oper} {a : Act} {b off : Nat} {o : OpL} (x : Operand) (ho : op.op = .load 67 x) (hx : a.eval x = .pointer (some ⟨b, off, none⟩)) (h : OpAt w b off o) (hr : Rw.ok o.row) :
    (execOp a.eval op).run Try.prog w = .ok (.value o.val) w := by
  have hi : (Try.prog.info? 67).map (·.size) = some 29 := by kernel_rfl
  have hl : o.cells.length = 29 := by simp [OpL.cells, Rw.cells_len hr]
  have := run_loadAt_mid (P := Try.prog) w b off 67 o.cells _ h Try.underlying67 rfl (by rw [hi, hl])
  unfold execOp
  simp only [ho, hx, this, Sem.run_bind, Sem.run_pure, Result.andThen_ok]
  rfl
theorem did_up {B : Nat} {w W : World} {bb off : Nat} {S : Option RSt} {O : Nat → Prop} {p q : Option Addr} {e : Ending} {w' : World} (hf : Fut w W) (h : Did B W bb off S O p q e w') : Did B w bb off S O p q e w' := by
  obtain ⟨h0, S', O', kv, f, t, FT, FD, h1, h2, h3, h4, h5, h6, h7⟩ := h
  have := hf.size
  exact ⟨h0, S', O', kv, f, t, FT, FD, h1, h2, h3, h4, fun k hk => (h5 k hk).imp id fun h => by omega, (Only.fut hf).trans h6, (SameBut.of_same fun o ho => hf.block ho).trans h7⟩
section
variable {B : Nat} {w : World} {bb off : Nat} {S : Option RSt} {O FT FD : Nat → Prop} {p q : Option Addr} {kv : Value} {f t : Int}
set_option maxHeartbeats 1600000 in
set_option maxRecDepth 100000 in
theorem asks_amid (h : BothAt B w bb off S O p q kv f t FT FD) (hl : (rowsS S).length ≤ 1353244080301) (hgn : goneS S < 4611686018427387904) (o : OpL) (ho : o.ok) (hk : o.kind = 9) (hA : ∀ W kv' f' t', BothAt B W bb off S O p q kv' f' t' FT FD → Calls Try.prog 64 #[.pointer (some ⟨bb, off, none⟩), o.val] W (Did B W bb off S O p q)) :
    Calls Try.prog 50 #[.pointer (some ⟨bb, off, none⟩), o.val] w (Did B w bb off S O p q) := by
  have H := Lib.hid h
  obtain ⟨c0, c1, _⟩ := h.cell
  have hro := ho.row
  have hmo := ho.mask
  have hrow := op_row (w := w) (t := 67) hro
  have ck : (w.alloc (.cells o.cells.toArray 67)).cell? ⟨w.heap.size, 1, none⟩ = some (.int .i64 9) := by rw [← hk]; exact cell_at (heap_alloc_new w _) 1 _ rfl
  have cn : (w.alloc (.cells o.cells.toArray 67)).cell? ⟨w.heap.size, 2, none⟩ = some (.int .i64 o.n) := cell_at (heap_alloc_new w _) 2 _ rfl
  have cmm : (w.alloc (.cells o.cells.toArray 67)).cell? ⟨w.heap.size, 3, none⟩ = some (.int .i64 o.m) := cell_at (heap_alloc_new w _) 3 _ rfl
  have cm : (w.alloc (.cells o.cells.toArray 67)).cell? ⟨w.heap.size, 4, none⟩ = some (.int .u32 o.mask) := cell_at (heap_alloc_new w _) 4 _ rfl
  have F1 := Fut.alloc w (.cells o.cells.toArray 67)
  have HA := Lib.hid hA
  clear h hA
  unfold OpL.val
  go_enter Try.func50, Try.ntmps50
  have hop := OpAt.new w 67 o
  go_wp2_with (first | (refine wpList_of_run (wanted_none rfl _) (exec_load_Op _ rfl rfl hop hro) ?_))
  refine (HA.out _ _ _ _ (H.out.fut F1)).mono ?_
  intro e w2 hd
  obtain ⟨rfl, hd2⟩ := hd
  go_wp2
  go_ret
  exact did_up F1 ⟨rfl, hd2⟩
theorem asks_all (h : BothAt B w bb off S O p q kv f t FT FD) (hl : (rowsS S).length ≤ 1353244080301) (hgn : goneS S < 4611686018427387904) (o : OpL) (ho : o.ok)
    (hA : o.kind = 9 → ∀ W kv' f' t', BothAt B W bb off S O p q kv' f' t' FT FD → Calls Try.prog 64 #[.pointer (some ⟨bb, off, none⟩), o.val] W (Did B W bb off S O p q)) :
    Calls Try.prog 50 #[.pointer (some ⟨bb, off, none⟩), o.val] w (Did B w bb off S O p q) := by
  by_cases h6 : o.kind = 6
  · exact asks_range h hl hgn o ho h6
  by_cases h7 : o.kind = 7
  · exact asks_keep h hl hgn o ho h7
  by_cases h8 : o.kind = 8
  · exact asks_kept h hl hgn o ho h8
  by_cases h9 : o.kind = 9
  · exact asks_amid h hl hgn o ho h9 (hA h9)
  by_cases h10 : o.kind = 10
  · exact asks_sorted h hl hgn o ho h10
  by_cases h12 : o.kind = 12
  · exact asks_sizes h hl hgn o ho h12
  exact asks_other h hl hgn o ho (by simpa using h6) (by simpa using h7) (by simpa using h8) (by simpa using h9) (by simpa using h10) (by simpa using h12)
set_option maxHeartbeats 1600000 in
set_option maxRecDepth 100000 in
theorem does_asks (h : BothAt B w bb off S O p q kv f t FT FD) (hl : (rowsS S).length ≤ 1353244080301) (hgn : goneS S < 4611686018427387904) (o : OpL) (ho : o.ok) (h1 : (o.kind == 1) = false) (h2 : (o.kind == 2) = false) (h3 : (o.kind == 3) = false) (h4 : (o.kind == 4) = false) (h5 : (o.kind == 5) = false) (h13 : (o.kind == 13) = false)
    (hA : o.kind = 9 → ∀ W kv' f' t', BothAt B W bb off S O p q kv' f' t' FT FD → Calls Try.prog 64 #[.pointer (some ⟨bb, off, none⟩), o.val] W (Did B W bb off S O p q)) :
    Calls Try.prog 26 #[.pointer (some ⟨bb, off, none⟩), o.val] w (Did B w bb off S O p q) := by
  have H := Lib.hid h
  obtain ⟨c0, c1, _⟩ := h.cell
  have hro := ho.row
  have hmo := ho.mask
  have hrow := op_row (w := w) (t := 67) hro
  have ck : (w.alloc (.cells o.cells.toArray 67)).cell? ⟨w.heap.size, 1, none⟩ = some (.int .i64 o.kind) := by exact cell_at (heap_alloc_new w _) 1 _ rfl
  have cn : (w.alloc (.cells o.cells.toArray 67)).cell? ⟨w.heap.size, 2, none⟩ = some (.int .i64 o.n) := cell_at (heap_alloc_new w _) 2 _ rfl
  have cm : (w.alloc (.cells o.cells.toArray 67)).cell? ⟨w.heap.size, 4, none⟩ = some (.int .u32 o.mask) := cell_at (heap_alloc_new w _) 4 _ rfl
  have F1 := Fut.alloc w (.cells o.cells.toArray 67)
  have HA := Lib.hid hA
  clear h hA
  unfold OpL.val
  go_enter Try.func26, Try.ntmps26
  have hop := OpAt.new w 67 o
  go_wp2_with (first | (refine wpList_of_run (wanted_none rfl _) (exec_load_Op _ rfl rfl hop hro) ?_))
  refine (asks_all (H.out.fut F1) hl hgn o ho HA.out).mono ?_
  intro e w2 hd
  obtain ⟨rfl, hd2⟩ := hd
  go_wp2
  go_ret
  exact did_up F1 ⟨rfl, hd2⟩
end
end Go.Proofs.Ytcekphjcmippoaa
/- An Op built, stored. -/
namespace Go.Proofs.Ytcekphjcmippoaa
open Go.RowKit Go.WideMaps
set_option linter.unusedSimpArgs false
set_option linter.unusedVariables false

def zeroOp : OpL := ⟨0, 0, 0, 0, 0, zeroRow⟩
theorem op_len {o : OpL} (h : Rw.ok o.row) : o.cells.length = 29 := by simp [OpL.cells, Rw.cells_len h]
def opPlace (i : Nat) : Option (Nat × Nat) := (#[(0, 1), (1, 1), (2, 1), (3, 1), (4, 1), (5, 24)] : Array (Nat × Nat))[i]?
theorem run_build_Op {fs : Array (Nat × Value)} {o : OpL} (w : World) (hf : Instr.fill opPlace zeroOp.val.cells fs.toList = some o.cells.toArray) : (Instr.build 67 fs).run Try.prog w = .ok o.val w := by
  have hz : ∀ w, (zeroValue 67).run Try.prog w = .ok zeroOp.val w := fun w => by kernel_rfl
  have hu := Try.underlying67
  unfold Instr.build
  simp only [Sem.run_bind, hz, Result.andThen_ok, run_underlying hu]
  have hm : (Array.mapM (fun (f : Field) => do pure (f.offset, ← sizeOf f.type)) (#[{ name := "On", type := 3, offset := 0, embedded := false, tag := "", pkgPath := "", byteOffset := 0 }, { name := "Kind", type := 3, offset := 1, embedded := false, tag := "", pkgPath := "", byteOffset := 8 }, { name := "N", type := 3, offset := 2, embedded := false, tag := "", pkgPath := "", byteOffset := 16 }, { name := "M", type := 3, offset := 3, embedded := false, tag := "", pkgPath := "", byteOffset := 24 }, { name := "Mask", type := 43, offset := 4, embedded := false, tag := "", pkgPath := "", byteOffset := 32 }, { name := "R", type := 32, offset := 5, embedded := false, tag := "", pkgPath := "", byteOffset := 36 }] : Array Field) : Sem (Array (Nat × Nat))).run Try.prog w = .ok #[(0, 1), (1, 1), (2, 1), (3, 1), (4, 1), (5, 24)] w := by kernel_rfl
  rw [hm]
  simp only [Result.andThen_ok]
  have hf' : Instr.fill (fun x => (#[(0, 1), (1, 1), (2, 1), (3, 1), (4, 1), (5, 24)] : Array (Nat × Nat))[x]?) zeroOp.val.cells fs.toList = some o.cells.toArray := hf
  rw [hf']
  rfl
theorem fill_kr {k : Int} {x : Rw} (hx : Rw.ok x) : Instr.fill opPlace zeroOp.val.cells [(1, .int .i64 k), (5, Rw.val x)] = some (OpL.cells ⟨0, k, 0, 0, 0, x⟩).toArray := by
  have hl := Rw.cells_len hx
  have hzl : zeroOp.val.cells.size = 29 := rfl
  obtain ⟨arr0, g1, g2, g3⟩ := fill_one (place := opPlace) (i := 1) (off := 1) (sz := 1) (v := .int .i64 k) (zero := zeroOp.val.cells) rfl rfl (by rw [hzl]; omega) [(5, Rw.val x)]
  obtain ⟨arr1, h1, h2, h3⟩ := fill_one (place := opPlace) (i := 5) (off := 5) (sz := 24) (v := Rw.val x) (zero := arr0) rfl (by simp [Rw.val_cells, hl]) (by rw [g2, hzl]; decide) []
  rw [g1, h1]
  show some arr1 = _
  congr 1
  refine Array.ext_getElem? fun j => ?_
  rw [h3, g3]
  match j with
  | 0 => rfl
  | 1 => rfl
  | 2 => rfl
  | 3 => rfl
  | 4 => rfl
  | j + 5 =>
    by_cases hj : j < 24
    · rw [if_pos (by omega)]; simp [Rw.val_cells, OpL.cells]
    · rw [if_neg (by omega), if_neg (by omega), Array.getElem?_eq_none (by rw [hzl]; omega), Array.getElem?_eq_none (by simp [OpL.cells]; omega)]
theorem fill_rg {m : Int} : Instr.fill opPlace zeroOp.val.cells [(1, .int .i64 6), (2, .int .i64 0), (3, .int .i64 m)] = some (OpL.cells ⟨0, 6, 0, m, 0, zeroRow⟩).toArray := by
  have hzl : zeroOp.val.cells.size = 29 := rfl
  obtain ⟨arr0, g1, g2, g3⟩ := fill_one (place := opPlace) (i := 1) (off := 1) (sz := 1) (v := .int .i64 6) (zero := zeroOp.val.cells) rfl rfl (by rw [hzl]; omega) [(2, .int .i64 0), (3, .int .i64 m)]
  obtain ⟨arr1, h1, h2, h3⟩ := fill_one (place := opPlace) (i := 2) (off := 2) (sz := 1) (v := .int .i64 0) (zero := arr0) rfl rfl (by rw [g2, hzl]; omega) [(3, .int .i64 m)]
  obtain ⟨arr2, k1, k2, k3⟩ := fill_one (place := opPlace) (i := 3) (off := 3) (sz := 1) (v := .int .i64 m) (zero := arr1) rfl rfl (by rw [h2, g2, hzl]; omega) []
  rw [g1, h1, k1]
  show some arr2 = _
  congr 1
  refine Array.ext_getElem? fun j => ?_
  rw [k3, h3, g3]
  match j with
  | 0 => rfl
  | 1 => rfl
  | 2 => rfl
  | 3 => rfl
  | 4 => rfl
  | j + 5 => rw [if_neg (by omega), if_neg (by omega), if_neg (by omega)]; rfl
theorem exec_build_kr {op : Oper} {a : Act} {w : World} {k : Int} {x : Rw} (y : Operand) (ho : op.op = .build 67 #[(1, .const (.int .i64 k)), (5, y)]) (hy : a.eval y = Rw.val x) (hx : Rw.ok x) :
    (execOp a.eval op).run Try.prog w = .ok (.value (OpL.val ⟨0, k, 0, 0, 0, x⟩)) w := by
  have hr := run_build_Op (fs := #[(1, .int .i64 k), (5, Rw.val x)]) w (fill_kr (k := k) hx)
  have hk : a.eval (.const (.int .i64 k)) = .int .i64 k := rfl
  unfold execOp
  simp only [ho, List.map_toArray, List.map_cons, List.map_nil, hy, hk, hr, Sem.run_bind, Sem.run_pure, Result.andThen_ok]
theorem exec_build_rg {op : Oper} {a : Act} {w : World} {m : Int} (ho : op.op = .build 67 #[(1, .const (.int .i64 6)), (2, .const (.int .i64 0)), (3, .const (.int .i64 m))]) :
    (execOp a.eval op).run Try.prog w = .ok (.value (OpL.val ⟨0, 6, 0, m, 0, zeroRow⟩)) w := by
  have hr := run_build_Op (fs := #[(1, .int .i64 6), (2, .int .i64 0), (3, .int .i64 m)]) w (fill_rg (m := m))
  unfold execOp
  simp only [ho, List.map_toArray, List.map_cons, List.map_nil, Act.eval, hr, Sem.run_bind, Sem.run_pure, Result.andThen_ok]
/-- An Op is written over a block of 29 cells just made. -/
theorem wpList_store_Op {ops : Array Oper} {rest : List Oper} {Q : Exit → Act → World → Prop} {op : Oper} {a : Act} {w : World} {o : OpL} (hgd : Region.wanted op (yielded ops a.tmps) = true) {t : TypeId} {arr : Array Value} (x y : Operand) (ho : op.op = .store 67 x y) {k : Nat} (hx : a.eval x = .pointer (some ⟨k, 0, none⟩)) (hy : a.eval y = o.val) (hk : w.heap.size = k) (hs : arr.size = 29) (hr : Rw.ok o.row)
    (h : wpList Try.prog ops Q rest (a.put op.dst undef) (w.alloc (.cells o.cells.toArray t))) : wpList Try.prog ops Q (op :: rest) a (w.alloc (.cells arr t)) := by
  subst hk
  have hl := op_len hr
  have hsz : o.cells.toArray.size = 29 := by simpa using hl
  have hi : (Try.prog.info? 67).map (·.size) = some 29 := by kernel_rfl
  have hb := heap_alloc_new w (.cells arr t)
  have hone : ∀ v ∈ o.cells, v.oneCell' = true := fun v hv => by
    simp only [OpL.cells, List.mem_cons] at hv
    rcases hv with rfl | rfl | rfl | rfl | rfl | hv
    · rfl
    · rfl
    · rfl
    · rfl
    · rfl
    · exact RR.one w _ o.row ⟨rfl, hr⟩ v hv
  have h1 := run_storeVar_mid (P := Try.prog) (w.alloc (.cells arr t)) w.heap.size 0 67 o.cells.toArray (fun j hj => by
    rw [hsz] at hj
    have hj' : j < arr.size := by omega
    generalize w.alloc (.cells arr t) = wl at hb
    refine ⟨?_, ?_⟩
    · rw [Nat.zero_add]; simp [World.cell?, hb, hj']
    · simp [World.frozen?, hb]) (by rw [hi, hsz]) (all_oneCell_toArray hone)
  obtain ⟨arr', h2, h3, h4⟩ := setCells_put o.cells 0 (w.alloc (.cells arr t)) arr hb
  have e1 : arr' = o.cells.toArray := by
    refine Array.ext_getElem? fun j => ?_
    rw [h4]
    by_cases hj : j < 29
    · rw [if_pos (by omega)]; simp
    · rw [if_neg (by omega)]
      rw [Array.getElem?_eq_none (by omega), Array.getElem?_eq_none (by omega)]
  simp only at h1
  rw [h2, e1, putObj_alloc] at h1
  refine wpList_of_skip hgd (w' := w.alloc (.cells o.cells.toArray t)) ?_ h
  unfold execOp
  simp only [ho, hx, hy, OpL.val, Instr.storeAt, Instr.sureAddr, Sem.run_bind, Sem.run_pure, Result.andThen_ok, h1]
end Go.Proofs.Ytcekphjcmippoaa
/-
  The rule of XOn with J of two values. Printed by gonl.py.
-/
namespace Go.Proofs.Ytcekphjcmippoaa.OnL
open Go.RowKit
set_option linter.unusedSimpArgs false
set_option linter.unusedVariables false

def jB (jm : Nat) (js jd : Tmp) (ops : Array Oper) (n : Nat) : Bool :=
  decide (jm < n) && (match ops[jm]? with | none => false | some o => (List.range n).all fun k => dstAt ops k != some js || (decide (k < jm) && dep o k)) && dstAt ops jm == some jd
theorem jB_spec {jm : Nat} {js jd : Tmp} {ops : Array Oper} {n : Nat} (h : jB jm js jd ops n = true) : jm < n ∧ (∀ o, ops[jm]? = some o → ∀ k, k < n → dstAt ops k = some js → k < jm ∧ dep o k = true) ∧ dstAt ops jm = some jd := by
  simp only [jB, Bool.and_eq_true, decide_eq_true_eq, beq_iff_eq] at h
  obtain ⟨⟨h1, h2⟩, h3⟩ := h
  refine ⟨h1, fun o ho k hk hd => ?_, h3⟩
  rw [ho] at h2
  simp only [List.all_eq_true, List.mem_range] at h2
  have := h2 k hk
  simpa [hd] using this
/-- G: what any operation may do; H i: what the others do, while operation i has not been carried out; A i: behind it; D i j: i waits for j. J: what holds of the value in slot js behind operation jm. -/
class Mut where
  H : Nat → World → World → Prop
  A : Nat → World → World → Prop
  G : World → World → Prop
  D : Nat → Nat → Bool
  afut : ∀ {i : Nat} {a b : World}, Fut a b → A i a b
  hfut : ∀ {i : Nat} {a b : World}, Fut a b → H i a b
  htrans : ∀ {i : Nat} {a b c : World}, H i a b → H i b c → H i a c
  gfut : ∀ {a b : World}, Fut a b → G a b
  gtrans : ∀ {a b c : World}, G a b → G b c → G a c
  jm : Nat
  js : Tmp
  jd : Tmp
  J : Value → Value → World → Prop
  jkeep : ∀ {x v : Value} {a b : World}, A jm a b → J x v a → J x v b
variable [Mut]
def G (w w' : World) : Prop := Mut.G w w'
theorem G.refl (w : World) : G w w := Mut.gfut (Fut.refl w)
theorem G.trans {a b c : World} (h : G a b) (k : G b c) : G a c := Mut.gtrans h k
def Eff (i : Nat) (w w' : World) : Prop := ((∀ j, j ≠ i → Mut.D i j = false → Mut.H j w w') ∧ ∀ j, j ≠ i → Mut.D j i = false → Mut.A j w w') ∧ G w w'
theorem Eff.of_fut {i : Nat} {w w' : World} (h : Fut w w') : Eff i w w' := ⟨⟨fun _ _ _ => Mut.hfut h, fun _ _ _ => Mut.afut h⟩, Mut.gfut h⟩
def EffJ (i : Nat) (x v : Value) (w w' : World) : Prop := Eff i w w' ∧ (i = Mut.jm → Mut.J x v w')
theorem Eff.refl (i : Nat) (w : World) : Eff i w w := Eff.of_fut (Fut.refl w)
/-- Of operation i no J is asked. -/
def NoJ (i : Nat) : Prop := i ≠ Mut.jm ∨ ∀ x v w, Mut.J x v w
theorem Eff.j {i : Nat} {x v : Value} {w w' : World} (h : Eff i w w') (hj : NoJ i) : EffJ i x v w w' := ⟨h, fun e => hj.elim (fun n => absurd e n) fun k => k x v w'⟩

def Mono (i : Nat) : Sp → Prop
  | .det _ => True
  | .rel S => ∀ v w w', Mut.A i w w' → S v w → S v w'
theorem holds_mono {i : Nat} {s : Sp} (h : Mono i s) {v : Value} {w w' : World} (hf : Mut.A i w w') (hs : s.holds v w) : s.holds v w' := by
  cases s with
  | det c => exact hs
  | rel S => exact h v w w' hf hs

def givesUpon (i : Nat) (x : Value) (P : Program) (s : Sp) (w : World) : Result Next → Prop
  | .ok (.value v) w' => EffJ i x v w w' ∧ s.holds v w'
  | .ok .skip w' => EffJ i x undef w w' ∧ s.holds undef w'
  | .ok (.enter f args) w' => Calls P f args w' (fun e w'' => ∃ v, e = .returned v ∧ EffJ i x v w w'' ∧ s.holds v w'')
  | _ => False
def gives (i : Nat) (P : Program) (o : Oper) (a : Act) (s : Sp) (w : World) : Prop := givesUpon i (a.tmps.getD Mut.js undef) P s w ((execOp a.eval o).run P w)
def givesG (i : Nat) (P : Program) (ops : Array Oper) (o : Oper) (a : Act) (s : Sp) (w : World) : Prop :=
  if Region.wanted o (yielded ops a.tmps) = true then gives i P o a s w else EffJ i (a.tmps.getD Mut.js undef) undef w w ∧ s.holds undef w

def useJ (i : Nat) (o : Oper) (ops : Array Oper) : Bool := decide (Mut.jm < i) && decide (Mut.js ∈ o.looksAt ops) && decide (Mut.jd ∈ o.looksAt ops)
def givesJ (i : Nat) (P : Program) (ops : Array Oper) (o : Oper) (a : Act) (s : Sp) (w : World) : Prop :=
  (useJ i o ops = true → Mut.J (a.tmps.getD Mut.js undef) (a.tmps.getD Mut.jd undef) w) → givesG i P ops o a s w
def Obl (P : Program) (ops : Array Oper) (w0 : World) (a0 : Act) (K : Act → World → Prop) : List Oper → List (Option Tmp × Sp) → Prop
  | [], acc => ∀ w, G w0 w → lexFin w (fun a => Mut.J (a.tmps.getD Mut.js undef) (a.tmps.getD Mut.jd undef) w → K a w) acc a0
  | o :: r, acc => ∃ s : Sp, Mono acc.length s ∧ (∀ w, Mut.H acc.length w0 w → lexAct o w (fun a => givesJ acc.length P ops o a s w) 0 acc a0) ∧ Obl P ops w0 a0 K r (acc ++ [(o.dst, s)])

structure GInv (ops : Array Oper) (n : Nat) (sp : Nat → Sp) (a0 : Act) (w0 : World) (vs : Nat → Value) (listed : Array Bool) (a : Act) (w : World) : Prop where
  size : a.tmps.size = a0.tmps.size
  defers : a.defers = a0.defers
  fut : G w0 w
  free : ∀ t, (∀ k, k < n → listed.getD k false = true → dstAt ops k ≠ some t) → a.tmps[t]? = a0.tmps[t]?
  held : ∀ k, k < n → listed.getD k false = true → (sp k).holds (vs k) w
  slot : ∀ k d, k < n → listed.getD k false = true → dstAt ops k = some d → a.tmps[d]? = some (vs k)
  lsize : listed.size = ops.size
  closed : ∀ j oj, ops[j]? = some oj → listed.getD j false = true → ∀ e ∈ oj.after, Region.binds .any e = true → listed.getD e.on false = true
  tail : ∀ t, n ≤ t → t < ops.size → listed.getD t true = false
  hist : ∀ i, listed.getD i false = false → Mut.H i w0 w
  jj : listed.getD Mut.jm false = true → Mut.J (a.tmps.getD Mut.js undef) (vs Mut.jm) w

/-- The obligations, one by one. -/
theorem Obl_split {P : Program} {ops : Array Oper} {w0 : World} {a0 : Act} {K : Act → World → Prop} : ∀ (l : List Oper) (acc : List (Option Tmp × Sp)), Obl P ops w0 a0 K l acc →
    ∃ full : List (Option Tmp × Sp), full.length = acc.length + l.length ∧ full.take acc.length = acc ∧
      (∀ j o, l[j]? = some o → ∃ s, full[acc.length + j]? = some (o.dst, s) ∧ Mono (acc.length + j) s ∧ ∀ w, Mut.H (acc.length + j) w0 w → lexAct o w (fun a => givesJ (acc.length + j) P ops o a s w) 0 (full.take (acc.length + j)) a0) ∧
      (∀ w, G w0 w → lexFin w (fun a => Mut.J (a.tmps.getD Mut.js undef) (a.tmps.getD Mut.jd undef) w → K a w) full a0)
  | [], acc, h => ⟨acc, by simp, by simp, fun j o hj => by simp at hj, h⟩
  | o :: r, acc, h => by
    obtain ⟨s, hm, h1, h2⟩ := h
    obtain ⟨full, hl, ht, hall, hfin⟩ := Obl_split r _ h2
    have hlen : (acc ++ [(o.dst, s)]).length = acc.length + 1 := by simp
    rw [hlen] at hl ht hall
    have ht' : full.take acc.length = acc := by
      have := congrArg (List.take acc.length) ht
      simpa [List.take_take, Nat.min_eq_left (Nat.le_succ _)] using this
    refine ⟨full, by simp only [List.length_cons]; omega, ht', fun j o' hj => ?_, hfin⟩
    cases j with
    | zero =>
      simp only [List.getElem?_cons_zero, Option.some.injEq] at hj
      subst hj
      refine ⟨s, ?_, hm, fun w hw => by rw [Nat.add_zero] at hw ⊢; rw [ht']; exact h1 w hw⟩
      have := congrArg (fun x => x[acc.length]?) ht
      simpa [List.getElem?_take] using this
    | succ j =>
      have := hall j o' (by simpa using hj)
      rwa [show acc.length + 1 + j = acc.length + (j + 1) by omega] at this

section
variable {P : Program} {ops : Array Oper} {n : Nat} {sp : Nat → Sp} {a0 : Act} {w0 : World} {vs : Nat → Value} {listed : Array Bool} {a : Act} {w : World}

theorem GInv.step {full : List (Option Tmp × Sp)} {i : Nat} {Q : Exit → Act → World → Prop} {K : Act → World → Prop} (inv : GInv ops n sp a0 w0 vs listed a w) (hB : graphB ops n = true)
    (hbd : ∀ k d, dstAt ops k = some d → k < n → d < a0.tmps.size) (hjB : jB Mut.jm Mut.js Mut.jd ops n = true ∨ ∀ x v w, Mut.J x v w) (hDB : ∀ i j o, ops[i]? = some o → Mut.D i j = true → dep o j = true)
    (hsp : ∀ k, k < n → full[k]? = some (dstAt ops k, sp k)) (_hfl : full.length = n) (hmono : ∀ k, k < n → Mono k (sp k))
    (hob : ∀ o, ops[i]? = some o → ∀ w, Mut.H i w0 w → lexAct o w (fun a => givesJ i P ops o a (sp i) w) 0 (full.take i) a0)
    (hi : i ∈ Region.ready .any ops listed) (hin : i < n)
    (hK : ∀ v a' w', GInv ops n sp a0 w0 (fun k => if k = i then v else vs k) (listed.setIfInBounds i true) a' w' → K a' w') : wpOp P ops Q i K a w := by
  obtain ⟨hsel, hns, hg⟩ := graphB_spec hB
  obtain ⟨hun, o, ho, hall⟩ := mem_ready.1 hi
  obtain ⟨o', ho', hedge, hdist, hlook⟩ := hg i hin
  obtain rfl : o = o' := Option.some.inj (ho.symm.trans ho')
  have hunf : listed.getD i false = false := getD_both hun
  have hdep : ∀ k, dep o k = true → listed.getD k false = true := fun k hk => by
    obtain ⟨e, he, hb, rfl⟩ := dep_spec hk
    exact hall e he hb
  have hlex := lexAct_inst vs _ 0 a0 (hob o ho w (inv.hist i hunf)) fun j d S hj hd => by
    rw [Nat.zero_add] at hd ⊢
    rw [List.getElem?_take] at hj
    split at hj
    · rename_i hji
      have h1 := hsp j (by omega)
      rw [hj] at h1
      simp only [Option.some.injEq, Prod.mk.injEq] at h1
      have := inv.held j (by omega) (hdep j hd)
      rw [← h1.2] at this
      exact this
    · cases hj
  have hslot0 : ∀ t : Tmp, (∀ k, k < n → dstAt ops k = some t → (k < i → dep o k = true) ∧ (i < k → ∃ ok, ops[k]? = some ok ∧ dep ok i = true)) → a.tmps[t]? = (putAll vs 0 (full.take i) a0).tmps[t]? := fun t ht => by
    by_cases hex : ∃ k, k < i ∧ dstAt ops k = some t
    · obtain ⟨k, hki, hkd⟩ := hex
      have hkn : k < n := by omega
      have hkl := hdep k ((ht k hkn hkd).1 hki)
      have h1 : (full.take i)[k]? = some (some t, sp k) := by rw [List.getElem?_take, if_pos hki, hsp k hkn, hkd]
      rw [inv.slot k t hkn hkl hkd, putAll_at vs t _ 0 a0 k (sp k) (hbd k t hkd hkn) h1, Nat.zero_add]
      · have h2 := inv.held k hkn hkl
        cases hs : sp k with
        | det c => rw [hs] at h2; simp only [Sp.holds] at h2; rw [h2]; rfl
        | rel S => rfl
      · intro j d s' hj hd
        rw [List.getElem?_take] at hj
        split at hj
        · rename_i hji
          rw [hsp j (by omega)] at hj
          simp only [Option.some.injEq, Prod.mk.injEq] at hj
          have hjd : dstAt ops j = some t := hj.1.trans hd
          rcases Nat.lt_trichotomy j k with h' | h' | h'
          · obtain ⟨ok, hok, _, hd2, _⟩ := hg k hkn
            exact absurd hjd (hd2 t (by simpa [dstAt, hok] using hkd) j h')
          · exact h'
          · obtain ⟨oj, hoj, _, hd2, _⟩ := hg j (by omega)
            exact absurd hkd (hd2 t (by simpa [dstAt, hoj] using hjd) k h')
        · cases hj
    · rw [putAll_other]
      · refine inv.free t fun k hkn hkl hkd => ?_
        rcases Nat.lt_trichotomy k i with h' | h' | h'
        · exact hex ⟨k, h', hkd⟩
        · subst h'; rw [hunf] at hkl; cases hkl
        · obtain ⟨ok, hok, hdk⟩ := (ht k hkn hkd).2 h'
          obtain ⟨e, he, hb, hei⟩ := dep_spec hdk
          have := inv.closed k ok hok hkl e he hb
          rw [hei, hunf] at this
          cases this
      · intro d s hm hd
        obtain ⟨j, hj⟩ := List.getElem?_of_mem hm
        rw [List.getElem?_take] at hj
        split at hj
        · rename_i hji
          rw [hsp j (by omega)] at hj
          simp only [Option.some.injEq, Prod.mk.injEq] at hj
          exact hex ⟨j, hji, hj.1.trans hd⟩
        · cases hj
  have hslot : ∀ t ∈ o.looksAt ops, a.tmps[t]? = (putAll vs 0 (full.take i) a0).tmps[t]? := fun t ht => hslot0 t (hlook t ht)
  replace hlex := hlex fun hu => by
    rcases hjB with hjB | hjB
    · obtain ⟨j1, j2, j3⟩ := jB_spec hjB
      simp only [useJ, Bool.and_eq_true, decide_eq_true_eq] at hu
      obtain ⟨⟨u1, u2⟩, u3⟩ := hu
      have hl := hdep Mut.jm ((hlook _ u3 Mut.jm j1 j3).1 u1)
      have h7 := inv.jj hl
      have h8 := inv.slot Mut.jm Mut.jd j1 hl j3
      rw [Array.getD_eq_getD_getElem?] at h7
      rw [hslot _ u2] at h7
      rw [hslot _ u3] at h8
      rw [Array.getD_eq_getD_getElem?, Array.getD_eq_getD_getElem?, h8]
      exact h7
    · exact hjB _ _ _
  have hexec : execOp a.eval o = execOp (putAll vs 0 (full.take i) a0).eval o := execOp_congr o (fun cs b => Region.noSelect_spec hsel i o cs b ho) fun x hx => by
    cases x with
    | tmp t =>
      have := hslot t (List.mem_append_left _ (List.mem_filterMap.2 ⟨.tmp t, by simpa using hx, rfl⟩))
      simp only [Act.eval, Array.getD_eq_getD_getElem?, this]
    | _ => rfl
  have hwant : Region.wanted o (yielded ops a.tmps) = Region.wanted o (yielded ops (putAll vs 0 (full.take i) a0).tmps) := by
    unfold Region.wanted
    cases hgd : o.guard with
    | none => rfl
    | some gw =>
      obtain ⟨g, want⟩ := gw
      have hy : yielded ops a.tmps g = yielded ops (putAll vs 0 (full.take i) a0).tmps g := by
        unfold yielded
        cases ht : (ops[g]?).bind (·.dst) with
        | none => rfl
        | some t =>
          have := hslot t (by simp [Oper.looksAt, hgd, ht])
          simp only [Option.bind_some, this]
      simp only [hy]
  have hdi : dstAt ops i = o.dst := by simp [dstAt, ho]
  have hnW : ∀ k, listed.getD k false = true → Mut.D k i = false := fun k hl => by
    cases hd : Mut.D k i with
    | false => rfl
    | true =>
      have hks : k < ops.size := by
        rw [← inv.lsize]
        rcases Nat.lt_or_ge k listed.size with h' | h'
        · exact h'
        · rw [Array.getD_eq_getD_getElem?, Array.getElem?_eq_none h'] at hl; cases hl
      obtain ⟨e, he, hb, hei⟩ := dep_spec (hDB k i _ (Array.getElem?_eq_getElem hks) hd)
      have := inv.closed k _ (Array.getElem?_eq_getElem hks) hl e he hb
      rw [hei, hunf] at this
      cases this
  have hnew : ∀ v w', EffJ i ((putAll vs 0 (full.take i) a0).tmps.getD Mut.js undef) v w w' → (sp i).holds v w' → GInv ops n sp a0 w0 (fun k => if k = i then v else vs k) (listed.setIfInBounds i true) (a.put o.dst v) w' := fun v w' hf hv => by
    have hil : i < listed.size := by rw [inv.lsize]; omega
    have hset : ∀ k, k ≠ i → (listed.setIfInBounds i true).getD k false = listed.getD k false := fun k hk => getD_set_ne false (Ne.symm hk)
    refine ⟨by rw [put_size]; exact inv.size, by rw [put_defers']; exact inv.defers, inv.fut.trans hf.1.2, fun t ht => ?_, fun k hk hl => ?_, fun k d hk hl hd => ?_, by simp [inv.lsize], fun j oj hj hl e he hb => ?_, fun t ht ht' => by rw [getD_set_ne true (by omega)]; exact inv.tail t ht ht', fun j hj => ?_, fun hj => ?_⟩
    · have hit : o.dst ≠ some t := by rw [← hdi]; exact ht i hin (by simp [hil])
      rw [put_other _ _ _ _ hit]
      refine inv.free t fun k hk hl => ht k hk ?_
      by_cases hki : k = i
      · subst hki; simp [hil]
      · rw [hset k hki]; exact hl
    · by_cases hki : k = i
      · subst hki; simpa using hv
      · simp only [hki, if_false]
        rw [hset k hki] at hl
        exact holds_mono (hmono k hk) (hf.1.1.2 k hki (hnW k hl)) (inv.held k hk hl)
    · by_cases hki : k = i
      · subst hki
        have hod : o.dst = some d := by rw [← hdi]; exact hd
        rw [hod]
        show _ = some (if k = k then v else vs k)
        rw [if_pos rfl]
        exact put_same _ _ _ (by rw [inv.size]; exact hbd k d hd hk)
      · simp only [hki, if_false]
        rw [hset k hki] at hl
        rw [put_other]
        · exact inv.slot k d hk hl hd
        · intro hod
          have hid : dstAt ops i = some d := hdi.trans hod
          rcases Nat.lt_or_ge k i with h' | h'
          · exact hdist d hod k h' hd
          · obtain ⟨ok, hok, _, hd2, _⟩ := hg k hk
            exact hd2 d (by simpa [dstAt, hok] using hd) i (by omega) hid
    · by_cases hij : i = j
      · subst hij
        have : oj = o := Option.some.inj (hj.symm.trans ho)
        subst this
        exact getD_set_true (hall e he hb)
      · rw [getD_set_ne false hij] at hl
        exact getD_set_true (inv.closed j oj hj hl e he hb)
    · have hji : j ≠ i := fun e => by subst e; simp [hil] at hj
      rw [hset j hji] at hj
      exact Mut.htrans (inv.hist j hj) (hf.1.1.1 j hji (by
        cases hd : Mut.D i j with
        | false => rfl
        | true => have := hdep j (hDB i j o ho hd); rw [hj] at this; cases this))
    · rcases hjB with hjB | hjB
      · obtain ⟨j1, j2, j3⟩ := jB_spec hjB
        by_cases hji : i = Mut.jm
        · have hjk := j2 o (by rw [← hji]; exact ho)
          have hjs : o.dst ≠ some Mut.js := fun e => by have := (hjk i hin (hdi.trans e)).1; omega
          have hsl := hslot0 Mut.js fun k hk hd => ⟨fun _ => (hjk k hk hd).2, fun h => by have := (hjk k hk hd).1; omega⟩
          have h7 := hf.2 hji
          rw [Array.getD_eq_getD_getElem?] at h7 ⊢
          rw [put_other _ _ _ _ hjs, hsl]
          show Mut.J _ (if Mut.jm = i then v else vs Mut.jm) _
          rw [if_pos hji.symm]
          exact h7
        · rw [hset _ (Ne.symm hji)] at hj
          have hjs : o.dst ≠ some Mut.js := fun e => by
            obtain ⟨oj, hoj, _, _, hl5⟩ := hg Mut.jm j1
            obtain ⟨e', he', hb', hei⟩ := dep_spec (j2 oj hoj i hin (hdi.trans e)).2
            have := inv.closed Mut.jm oj hoj hj e' he' hb'
            rw [hei, hunf] at this
            cases this
          have h7 := inv.jj hj
          rw [Array.getD_eq_getD_getElem?] at h7 ⊢
          rw [put_other _ _ _ _ hjs]
          show Mut.J _ (if Mut.jm = i then v else vs Mut.jm) _
          rw [if_neg (Ne.symm hji)]
          exact Mut.jkeep (hf.1.1.2 _ (Ne.symm hji) (hnW _ hj)) h7
      · exact hjB _ _ _
  unfold wpOp
  simp only [ho]
  unfold givesG at hlex
  rw [← hwant] at hlex
  split
  · rename_i hw
    rw [if_pos hw] at hlex
    refine .inl ?_
    unfold gives at hlex
    rw [← hexec] at hlex
    unfold Oper.wp
    generalize (execOp a.eval o).run P w = r at hlex ⊢
    cases r with
    | ok nx w' =>
      cases nx <;> simp only [givesUpon] at hlex <;> simp only [Oper.upon]
      case value u => exact hK u _ _ (hnew u w' hlex.1 hlex.2)
      case skip => exact hK undef _ _ (hnew undef w' hlex.1 hlex.2)
      case enter f args =>
        refine Calls.mono hlex fun e w'' he => ?_
        obtain ⟨v, rfl, hf, hv⟩ := he
        exact hK v _ _ (hnew v w'' hf hv)
    | halt x w' => simp only [givesUpon] at hlex
  · rename_i hw
    rw [if_neg hw] at hlex
    exact hK undef _ _ (hnew undef w hlex.1 hlex.2)
end

theorem wp_region_graph {P : Program} {id : Nat} {Q : Exit → Act → World → Prop} {a0 : Act} {w : World} {l : List Oper} (n : Nat) (hm : P.follows .mixedOrders = true)
    (hB : (graphB l.toArray n && tailB l.toArray n) = true) (hsz : ((List.range n).all fun k => match dstAt l.toArray k with | some d => decide (d < a0.tmps.size) | none => true) = true) (hjB : jB Mut.jm Mut.js Mut.jd l.toArray n = true ∨ ∀ x v w, Mut.J x v w) (hDB : ∀ i j o, l.toArray[i]? = some o → Mut.D i j = true → dep o j = true)
    (h : Obl P l.toArray w.drew a0 (wpList P l.toArray Q (l.drop n)) (l.take n) []) : (Code.region id l.toArray true).wp P Q a0 w := by
  simp only [Bool.and_eq_true, tailB] at hB
  obtain ⟨hG, hS, hseq⟩ := hB
  obtain ⟨hsel, hns, hg⟩ := graphB_spec hG
  have hnl : n ≤ l.length := by simpa using hns
  have hbd : ∀ k d, dstAt l.toArray k = some d → k < n → d < a0.tmps.size := fun k d hd hk => by
    have := List.all_eq_true.1 hsz k (List.mem_range.2 hk)
    simpa [hd] using this
  obtain ⟨full, hfl, _, hob, hfin⟩ := Obl_split _ _ h
  simp only [List.length_nil, Nat.zero_add] at hfl hob
  have htl : (l.take n).length = n := by simp; omega
  rw [htl] at hfl
  -- the specifications
  obtain ⟨sp, hsp⟩ : ∃ sp : Nat → Sp, ∀ k, sp k = ((full[k]?).map (·.2)).getD (.det undef) := ⟨_, fun _ => rfl⟩
  have hfull : ∀ k, k < n → ∃ o, l[k]? = some o ∧ full[k]? = some (dstAt l.toArray k, sp k) ∧ Mono k (sp k) ∧
      ∀ w', Mut.H k w.drew w' → lexAct o w' (fun a => givesJ k P l.toArray o a (sp k) w') 0 (full.take k) a0 := fun k hk => by
    have hlk : l[k]? = some (l[k]'(by omega)) := List.getElem?_eq_getElem (by omega)
    obtain ⟨s, hs, hmono, hlex⟩ := hob k _ (by rw [List.getElem?_take, if_pos hk]; exact hlk)
    have hspk : sp k = s := by rw [hsp, hs]; rfl
    refine ⟨_, hlk, ?_, by rw [hspk]; exact hmono, by rw [hspk]; exact hlex⟩
    rw [hs, hspk]
    simp [dstAt, hlk]
  refine wp_region_any hm ?_
  have main : ∀ (f : Nat) (listed : Array Bool) (a : Act) (w' : World) (vs : Nat → Value), GInv l.toArray n sp a0 w.drew vs listed a w' → unl listed n = f →
      wpAny P .any l.toArray Q (f + (l.length - n)) listed a w' := by
    intro f
    induction f with
    | zero =>
      intro listed a w' vs inv hf
      rw [Nat.zero_add]
      have hlisted : listed = headDone n l.length := by
        refine Array.ext_getElem? fun t => ?_
        by_cases ht : t < l.length
        · have hts : t < listed.size := by rw [inv.lsize]; simpa using ht
          have h2 : (headDone n l.length)[t]? = some (decide (t < n)) := by simp [headDone, ht]
          rw [h2, Array.getElem?_eq_getElem hts]
          by_cases htn : t < n
          · have := unl_zero n hf t htn
            simp [hts] at this
            simp [htn, this]
          · have := inv.tail t (by omega) (by simpa using ht)
            simp [hts] at this
            simp [htn, this]
        · rw [Array.getElem?_eq_none (by rw [inv.lsize]; simp; omega), Array.getElem?_eq_none (by simp [headDone]; omega)]
      have hlast := lexFin_inst (K := fun a => Mut.J (a.tmps.getD Mut.js undef) (a.tmps.getD Mut.jd undef) w' → wpList P l.toArray Q (l.drop n) a w') vs full 0 a0 (hfin w' inv.fut) fun j d S hj => by
        rw [Nat.zero_add]
        have hjn : j < n := by rw [← hfl]; exact (List.getElem?_eq_some_iff.1 hj).1
        obtain ⟨_, _, h1, _, _⟩ := hfull j hjn
        rw [hj] at h1
        simp only [Option.some.injEq, Prod.mk.injEq] at h1
        have := inv.held j hjn (unl_zero n hf j hjn)
        rw [← h1.2] at this
        exact this
      have hact : a = putAll vs 0 full a0 := by
        refine act_ext (fun t => ?_) ?_
        · by_cases hex : ∃ k, k < n ∧ dstAt l.toArray k = some t
          · obtain ⟨k, hk, hkd⟩ := hex
            obtain ⟨_, _, h1, _, _⟩ := hfull k hk
            rw [hkd] at h1
            rw [inv.slot k t hk (unl_zero n hf k hk) hkd, putAll_at vs t full 0 a0 k (sp k) (hbd k t hkd hk) h1, Nat.zero_add]
            · have h2 := inv.held k hk (unl_zero n hf k hk)
              cases hs : sp k with
              | det c => rw [hs] at h2; simp only [Sp.holds] at h2; rw [h2]; rfl
              | rel S => rfl
            · intro j d s' hj hd
              have hjn : j < n := by rw [← hfl]; exact (List.getElem?_eq_some_iff.1 hj).1
              obtain ⟨_, _, h3, _, _⟩ := hfull j hjn
              rw [hj] at h3
              simp only [Option.some.injEq, Prod.mk.injEq] at h3
              have hjd : dstAt l.toArray j = some t := h3.1.symm.trans hd
              rcases Nat.lt_trichotomy j k with h' | h' | h'
              · obtain ⟨ok, hok, _, hd2, _⟩ := hg k hk
                exact absurd hjd (hd2 t (by simpa [dstAt, hok] using hkd) j h')
              · exact h'
              · obtain ⟨oj, hoj, _, hd2, _⟩ := hg j hjn
                exact absurd hkd (hd2 t (by simpa [dstAt, hoj] using hjd) k h')
          · rw [inv.free t fun k hk _ hd => hex ⟨k, hk, hd⟩, putAll_other]
            intro d s hmem hd
            obtain ⟨j, hj⟩ := List.getElem?_of_mem hmem
            have hjn : j < n := by rw [← hfl]; exact (List.getElem?_eq_some_iff.1 hj).1
            obtain ⟨_, _, h3, _, _⟩ := hfull j hjn
            rw [hj] at h3
            simp only [Option.some.injEq, Prod.mk.injEq] at h3
            exact hex ⟨j, hjn, h3.1.symm.trans hd⟩
        · rw [inv.defers]
          have : ∀ (acc : List (Option Tmp × Sp)) (k : Nat) (b : Act), (putAll vs k acc b).defers = b.defers := by
            intro acc
            induction acc with
            | nil => intro k b; rfl
            | cons x r ih =>
              intro k b
              obtain ⟨d, s⟩ := x
              cases s <;> simp only [putAll] <;> rw [ih, put_defers']
          rw [this]
      rw [← hact] at hlast
      replace hlast := hlast (hjB.elim (fun h => by
        have h7 := inv.jj (unl_zero n hf _ (jB_spec h).1)
        have h8 := inv.slot Mut.jm Mut.jd (jB_spec h).1 (unl_zero n hf _ (jB_spec h).1) (jB_spec h).2.2
        rw [show a.tmps.getD Mut.jd undef = vs Mut.jm by rw [Array.getD_eq_getD_getElem?, h8]; rfl]
        exact h7) fun h => h _ _ _)
      have := wpAny_of_seq (md := .any) (P := P) (Q' := Q) (l.drop n) n listed a w' (fun j => by simp [List.getElem?_drop])
        (by rw [hlisted, List.length_drop]; simpa using hseq) hlast
      rwa [List.length_drop] at this
    | succ f ih =>
      intro listed a w' vs inv hf
      obtain ⟨i0, hi0, hi1, hi2⟩ := unl_some n (by rw [hf]; omega)
      have hils : ∀ i, i < n → i < listed.size := fun i hi => by rw [inv.lsize]; simp; omega
      have hready : i0 ∈ Region.ready .any l.toArray listed := by
        obtain ⟨o, ho, hedge, _⟩ := hg i0 hi0
        exact mem_ready.2 ⟨getD_in (hils i0 hi0) hi1, o, ho, fun e he hb => hi2 _ (hedge e he hb)⟩
      rw [show f + 1 + (l.length - n) = (f + (l.length - n)) + 1 by omega]
      refine ⟨fun h0 => (by rw [h0] at hready; cases hready), fun i hi => ?_⟩
      have hin : i < n := by
        rcases Nat.lt_or_ge i n with h' | h'
        · exact h'
        · exfalso
          have hisz : i < l.toArray.size := by
            obtain ⟨_, o, ho, _⟩ := mem_ready.1 hi
            exact (Array.getElem?_eq_some_iff.1 ho).1
          simp only [sinkB, Bool.or_eq_true, decide_eq_true_eq, Bool.and_eq_true] at hS
          rcases hS with hS | ⟨hs, hc⟩
          · omega
          · exact tail_waits hs hc (by omega) ⟨inv.lsize, inv.closed, inv.tail⟩ _ i0 rfl hi0 (getD_in (hils i0 hi0) hi1) i h' hi
      refine inv.step (full := full) (Q := Q) hG hbd hjB hDB (fun k hk => (by obtain ⟨_, _, h1, _, _⟩ := hfull k hk; exact h1)) hfl (fun k hk => (by obtain ⟨_, _, _, h1, _⟩ := hfull k hk; exact h1))
        (fun o ho => (by
          obtain ⟨o', ho', _, _, h1⟩ := hfull i hin
          have : o = o' := Option.some.inj ((by simpa using ho.symm : some o = l[i]?).trans ho')
          subst this
          exact h1)) hi hin fun v a' w'' inv' => ih _ a' w'' _ inv' ?_
      have hun := getD_both (mem_ready.1 hi).1
      have := unl_set hun (hils i hin) n hin
      omega
  have := main n (Array.replicate l.toArray.size false) a0 w.drew (fun _ => undef)
    ⟨rfl, rfl, G.refl _, fun _ _ => rfl, fun k _ hl => (by rw [getD_replicate_false] at hl; cases hl), fun k _ _ hl => (by rw [getD_replicate_false] at hl; cases hl), by simp,
      fun j oj _ hl => (by rw [getD_replicate_false] at hl; cases hl), fun t _ ht => getD_in (by simpa using ht) (getD_replicate_false _ _), fun i _ => Mut.hfut (Fut.refl _), fun hl => (by rw [getD_replicate_false] at hl; cases hl)⟩ (unl_none _ _)
  rwa [show n + (l.length - n) = l.toArray.size by simp; omega] at this

def Run (P : Program) (ops : Array Oper) (w0 : World) (K : Act → World → Prop) : Nat → List Oper → List Sp → Act → List (Nat × (World → Prop)) → Prop
  | _, [], _, a, known => ∀ w, G w0 w → AllFacts known w → Mut.J (a.tmps.getD Mut.js undef) (a.tmps.getD Mut.jd undef) w → K a w
  | i, o :: r, .det c :: sps, a, known => (∀ w, Mut.H i w0 w → Facts known o w → givesJ i P ops o a (.det c) w) ∧ Run P ops w0 K (i + 1) r sps (a.put o.dst c) known
  | i, o :: r, .rel S :: sps, a, known => (∀ v w w', Mut.A i w w' → S v w → S v w') ∧ (∀ w, Mut.H i w0 w → Facts known o w → givesJ i P ops o a (.rel S) w) ∧
      ∀ v, Run P ops w0 K (i + 1) r sps (a.put o.dst v) (known ++ [(i, S v)])
  | _, _ :: _, [], _, _ => False

theorem Obl_of_run {P : Program} {ops : Array Oper} {w0 : World} {a0 : Act} {K : Act → World → Prop} : ∀ (l : List Oper) (sps : List Sp) (acc : List (Option Tmp × Sp)),
    (∀ v : Nat → Value, Run P ops w0 K acc.length l sps (putAll v 0 acc a0) (knownOf v 0 acc)) → Obl P ops w0 a0 K l acc
  | [], sps, acc, h => fun w hw => lexFin_intro acc 0 a0 fun v hv => by
    have := h v
    simp only [Run] at this
    exact this w hw (allFacts_of acc 0 hv)
  | o :: r, [], acc, h => by have := h (fun _ => undef); simp only [Run] at this
  | o :: r, .det c :: sps, acc, h => by
    refine ⟨.det c, trivial, fun w hw => lexAct_intro acc 0 a0 fun v hv => ?_, Obl_of_run r sps _ fun v => ?_⟩
    · have := h v
      simp only [Run] at this
      exact this.1 w hw (facts_of acc 0 hv)
    · have := (h v)
      simp only [Run] at this
      have h2 := this.2
      rw [putAll_append, knownOf_append, List.length_append]
      simpa [putAll, knownOf] using h2
  | o :: r, .rel S :: sps, acc, h => by
    refine ⟨.rel S, ?_, fun w hw => lexAct_intro acc 0 a0 fun v hv => ?_, Obl_of_run r sps _ fun v => ?_⟩
    · have := h (fun _ => undef)
      simp only [Run] at this
      exact this.1
    · have := h v
      simp only [Run] at this
      exact this.2.1 w hw (facts_of acc 0 hv)
    · have := h v
      simp only [Run] at this
      have h2 := this.2.2 (v acc.length)
      rw [putAll_append, knownOf_append, List.length_append]
      simpa [putAll, knownOf] using h2

/-- THE RULE. 'n': how many operations the head has; 'shape': of each of these whether its value is fixed ('.d') or what is known of it ('.r S'). -/
theorem wp_graph {P : Program} {id : Nat} {Q : Exit → Act → World → Prop} {a0 : Act} {w : World} {l : List Oper} (n : Nat) (shape : List Sh) (hm : P.follows .mixedOrders = true)
    (hB : (graphB l.toArray n && tailB l.toArray n) = true) (hsz : ((List.range n).all fun k => match dstAt l.toArray k with | some d => decide (d < a0.tmps.size) | none => true) = true) (hjB : jB Mut.jm Mut.js Mut.jd l.toArray n = true ∨ ∀ x v w, Mut.J x v w) (hDB : ∀ i j o, l.toArray[i]? = some o → Mut.D i j = true → dep o j = true)
    (h : Exs (fun sps => Run P l.toArray w.drew (wpList P l.toArray Q (l.drop n)) 0 (l.take n) sps a0 []) shape) : (Code.region id l.toArray true).wp P Q a0 w := by
  obtain ⟨sps, hs⟩ := Exs_some shape h
  exact wp_region_graph n hm hB hsz hjB hDB (Obl_of_run _ sps [] fun _ => hs)

section
variable {P : Program} {ops : Array Oper} {w0 : World} {K : Act → World → Prop} {i : Nat} {o : Oper} {r : List Oper} {sps : List Sp} {a : Act} {known : List (Nat × (World → Prop))}
/-- An operation that makes nothing. -/
theorem Run.val {c : Value} (hj : NoJ i) (hg : o.guard = none) (h : ∀ w, Mut.H i w0 w → Facts known o w → (execOp a.eval o).run P w = .ok (.value c) w) (k : Run P ops w0 K (i + 1) r sps (a.put o.dst c) known) :
    Run P ops w0 K i (o :: r) (.det c :: sps) a known := by
  refine ⟨fun w hw hf => ?_, k⟩
  unfold givesJ
  intro hJ
  unfold givesG
  rw [if_pos (wanted_none hg _)]
  unfold gives
  rw [h w hw hf]
  exact ⟨(Eff.refl i w).j hj, rfl⟩
/-- The same behind a guard that lets it go on. -/
theorem Run.valG {c : Value} (hj : NoJ i) (hg : Region.wanted o (yielded ops a.tmps) = true) (h : ∀ w, Mut.H i w0 w → Facts known o w → (execOp a.eval o).run P w = .ok (.value c) w) (k : Run P ops w0 K (i + 1) r sps (a.put o.dst c) known) :
    Run P ops w0 K i (o :: r) (.det c :: sps) a known := by
  refine ⟨fun w hw hf => ?_, k⟩
  unfold givesJ
  intro hJ
  unfold givesG
  rw [if_pos hg]
  unfold gives
  rw [h w hw hf]
  exact ⟨(Eff.refl i w).j hj, rfl⟩
theorem Run.skip (hj : NoJ i) (hg : Region.wanted o (yielded ops a.tmps) = false) (k : Run P ops w0 K (i + 1) r sps (a.put o.dst undef) known) :
    Run P ops w0 K i (o :: r) (.det undef :: sps) a known := by
  refine ⟨fun w hw hf => ?_, k⟩
  unfold givesJ
  intro hJ
  unfold givesG
  rw [if_neg (by rw [hg]; exact Bool.false_ne_true)]
  exact ⟨(Eff.refl i w).j hj, rfl⟩
/-- A call whose answer is known. -/
theorem Run.call {c : Value} {f : FuncId} {args : Array Value} (hj : NoJ i) (hg : Region.wanted o (yielded ops a.tmps) = true) (h : ∀ w, Mut.H i w0 w → (execOp a.eval o).run P w = .ok (.enter f args) w)
    (hc : ∀ w, Mut.H i w0 w → Facts known o w → Calls P f args w fun e w' => e = .returned c ∧ Fut w w') (k : Run P ops w0 K (i + 1) r sps (a.put o.dst c) known) :
    Run P ops w0 K i (o :: r) (.det c :: sps) a known := by
  refine ⟨fun w hw hf => ?_, k⟩
  unfold givesJ
  intro hJ
  unfold givesG
  rw [if_pos hg]
  unfold gives
  rw [h w hw]
  exact (hc w hw hf).mono fun e w' ⟨he, hf'⟩ => ⟨c, he, (Eff.of_fut hf').j hj, rfl⟩
/-- A call that turns memory, whose answer is known. -/
theorem Run.mut {c : Value} {f : FuncId} {args : Array Value} (hj : NoJ i) (hg : Region.wanted o (yielded ops a.tmps) = true) (h : ∀ w, Mut.H i w0 w → (execOp a.eval o).run P w = .ok (.enter f args) w)
    (hc : ∀ w, Mut.H i w0 w → Facts known o w → Calls P f args w fun e w' => e = .returned c ∧ Eff i w w') (k : Run P ops w0 K (i + 1) r sps (a.put o.dst c) known) :
    Run P ops w0 K i (o :: r) (.det c :: sps) a known := by
  refine ⟨fun w hw hf => ?_, k⟩
  unfold givesJ
  intro hJ
  unfold givesG
  rw [if_pos hg]
  unfold gives
  rw [h w hw]
  exact (hc w hw hf).mono fun e w' ⟨he, hf'⟩ => ⟨c, he, hf'.j hj, rfl⟩
/-- An operation that writes. -/
theorem Run.mutV (hg : Region.wanted o (yielded ops a.tmps) = true)
    (h : ∀ w, Mut.H i w0 w → Facts known o w → ∃ w', (execOp a.eval o).run P w = .ok .skip w' ∧ Eff i w w' ∧ (i = Mut.jm → Mut.J (a.tmps.getD Mut.js undef) undef w')) (k : Run P ops w0 K (i + 1) r sps (a.put o.dst undef) known) :
    Run P ops w0 K i (o :: r) (.det undef :: sps) a known := by
  refine ⟨fun w hw hf => ?_, k⟩
  unfold givesJ
  intro hJ
  unfold givesG
  rw [if_pos hg]
  unfold gives
  obtain ⟨w', he, h1, h2⟩ := h w hw hf
  rw [he]
  exact ⟨⟨h1, h2⟩, rfl⟩
/-- A call of whose answer something is known. -/
theorem Run.callR {S : Value → World → Prop} {f : FuncId} {args : Array Value} (hj : NoJ i) (hg : Region.wanted o (yielded ops a.tmps) = true) (hm : ∀ v w w', Mut.A i w w' → S v w → S v w') (h : ∀ w, Mut.H i w0 w → (execOp a.eval o).run P w = .ok (.enter f args) w)
    (hc : ∀ w, Mut.H i w0 w → Facts known o w → Calls P f args w fun e w' => ∃ v, e = .returned v ∧ Fut w w' ∧ S v w') (k : ∀ v, Run P ops w0 K (i + 1) r sps (a.put o.dst v) (known ++ [(i, S v)])) :
    Run P ops w0 K i (o :: r) (.rel S :: sps) a known := by
  refine ⟨hm, fun w hw hf => ?_, k⟩
  unfold givesJ
  intro hJ
  unfold givesG
  rw [if_pos hg]
  unfold gives
  rw [h w hw]
  exact (hc w hw hf).mono fun e w' ⟨v, he, hf', hs⟩ => ⟨v, he, (Eff.of_fut hf').j hj, hs⟩
/-- A call that turns memory, of whose answer something is known. -/
theorem Run.mutR {S : Value → World → Prop} {f : FuncId} {args : Array Value} (hj : NoJ i) (hg : Region.wanted o (yielded ops a.tmps) = true) (hm : ∀ v w w', Mut.A i w w' → S v w → S v w') (h : ∀ w, Mut.H i w0 w → (execOp a.eval o).run P w = .ok (.enter f args) w)
    (hc : ∀ w, Mut.H i w0 w → Facts known o w → Calls P f args w fun e w' => ∃ v, e = .returned v ∧ Eff i w w' ∧ S v w') (k : ∀ v, Run P ops w0 K (i + 1) r sps (a.put o.dst v) (known ++ [(i, S v)])) :
    Run P ops w0 K i (o :: r) (.rel S :: sps) a known := by
  refine ⟨hm, fun w hw hf => ?_, k⟩
  unfold givesJ
  intro hJ
  unfold givesG
  rw [if_pos hg]
  unfold gives
  rw [h w hw]
  exact (hc w hw hf).mono fun e w' ⟨v, he, hf', hs⟩ => ⟨v, he, hf'.j hj, hs⟩
/-- The linking call, of whose answer something is known. -/
theorem Run.linkR {S : Value → World → Prop} {f : FuncId} {args : Array Value} (hg : Region.wanted o (yielded ops a.tmps) = true) (hm : ∀ v w w', Mut.A i w w' → S v w → S v w') (h : ∀ w, Mut.H i w0 w → (execOp a.eval o).run P w = .ok (.enter f args) w)
    (hc : ∀ w, Mut.H i w0 w → Facts known o w → Calls P f args w fun e w' => ∃ v, e = .returned v ∧ Fut w w' ∧ Mut.J (a.tmps.getD Mut.js undef) v w' ∧ S v w') (k : ∀ v, Run P ops w0 K (i + 1) r sps (a.put o.dst v) (known ++ [(i, S v)])) :
    Run P ops w0 K i (o :: r) (.rel S :: sps) a known := by
  refine ⟨hm, fun w hw hf => ?_, k⟩
  unfold givesJ
  intro hJ
  unfold givesG
  rw [if_pos hg]
  unfold gives
  rw [h w hw]
  exact (hc w hw hf).mono fun e w' ⟨v, he, hf', hl, hs⟩ => ⟨v, he, ⟨Eff.of_fut hf', fun _ => hl⟩, hs⟩
/-- An operation that makes memory: of its value something is known. -/
theorem Run.valR {S : Value → World → Prop} (hj : NoJ i) (hg : Region.wanted o (yielded ops a.tmps) = true) (hm : ∀ v w w', Mut.A i w w' → S v w → S v w')
    (h : ∀ w, Mut.H i w0 w → Facts known o w → ∃ v w', (execOp a.eval o).run P w = .ok (.value v) w' ∧ Fut w w' ∧ S v w') (k : ∀ v, Run P ops w0 K (i + 1) r sps (a.put o.dst v) (known ++ [(i, S v)])) :
    Run P ops w0 K i (o :: r) (.rel S :: sps) a known := by
  refine ⟨hm, fun w hw hf => ?_, k⟩
  unfold givesJ
  intro hJ
  unfold givesG
  rw [if_pos hg]
  unfold gives
  obtain ⟨v, w', he, h1, h2⟩ := h w hw hf
  rw [he]
  exact ⟨(Eff.of_fut h1).j hj, h2⟩
/-- An operation that looks at both linked values. -/
theorem Run.joinR {S : Value → World → Prop} (hj : NoJ i) (hu : useJ i o ops = true) (hg : Region.wanted o (yielded ops a.tmps) = true) (hm : ∀ v w w', Mut.A i w w' → S v w → S v w')
    (h : ∀ w, Mut.H i w0 w → Facts known o w → Mut.J (a.tmps.getD Mut.js undef) (a.tmps.getD Mut.jd undef) w → ∃ v w', (execOp a.eval o).run P w = .ok (.value v) w' ∧ Fut w w' ∧ S v w') (k : ∀ v, Run P ops w0 K (i + 1) r sps (a.put o.dst v) (known ++ [(i, S v)])) :
    Run P ops w0 K i (o :: r) (.rel S :: sps) a known := by
  refine ⟨hm, fun w hw hf => ?_, k⟩
  unfold givesJ
  intro hJ
  unfold givesG
  rw [if_pos hg]
  unfold gives
  obtain ⟨v, w', he, h1, h2⟩ := h w hw hf (hJ hu)
  rw [he]
  exact ⟨(Eff.of_fut h1).j hj, h2⟩
theorem Run.done (h : ∀ w, G w0 w → AllFacts known w → Mut.J (a.tmps.getD Mut.js undef) (a.tmps.getD Mut.jd undef) w → K a w) : Run P ops w0 K i [] sps a known := h
end

end Go.Proofs.Ytcekphjcmippoaa.OnL
namespace Go.Proofs.Ytcekphjcmippoaa.OnL
/-- Nothing is turned; J links the value in slot s to operation m's own. -/
abbrev Mut.link (m : Nat) (s d : Tmp) (K : Value → Value → World → Prop) (hK : ∀ {x v : Value} {a b : World}, Fut a b → K x v a → K x v b) : Mut where
  H _ := Fut
  A _ := Fut
  G := Fut
  D _ _ := false
  hfut h := h
  afut h := h
  htrans := Fut.trans
  gfut h := h
  gtrans := Fut.trans
  jm := m
  js := s
  jd := d
  J := K
  jkeep := hK
theorem link_dep {m : Nat} {s d : Tmp} {K : Value → Value → World → Prop} {hK : ∀ {x v : Value} {a b : World}, Fut a b → K x v a → K x v b} {ops : Array Oper} : ∀ i j o, ops[i]? = some o → @Mut.D (Mut.link m s d K hK) i j = true → dep o j = true := fun i j o ho hd => by
  have hd' : false = true := hd
  cases hd'
end Go.Proofs.Ytcekphjcmippoaa.OnL
