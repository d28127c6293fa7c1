/- RelS, Pick -/
import Derived.Test.YtijdichfaofjaaaGreatDoorC09
/- Turns in lists: appended, built; two relations and a list that lie apart. -/
namespace Go.Proofs.YtijdichfaofjaaaGreatDoor
open Go.RowKit Go.WideMaps
set_option linter.unusedSimpArgs false
set_option linter.unusedVariables false

theorem RTn.one : ∀ (w : World) cs x, RTn w cs x → ∀ u ∈ cs, u.oneCell' = true := fun w cs x h u hu => by
  obtain ⟨rfl, h2⟩ := h
  rcases List.mem_cons.1 hu with rfl | hu
  · rfl
  · exact RR.one w _ x.row ⟨rfl, h2⟩ u hu
def zeroT : Value := .agg (.bool false :: Rw.cells zeroRow).toArray
theorem infoTn : (Tryz.prog.info? 85).map (fun i => (i.zero, i.size, i.bytes)) = some (some zeroT, 25, 100) := by kernel_rfl
theorem exec_append_T {o : Oper} {a : Act} {B : Nat} {w : World} {v u : Value} {xs ys : List Tn} {M : Nat} (s x : Operand)
    (ho : o.op = .call { callee := .builtin .append, args := #[s, x], argTypes := #[22, 22] })
    (hs : a.eval s = v) (hx : a.eval x = u) (hown : OwnL 25 B 85 RTn w v xs) (hu : SlRep 25 M RTn w u ys) (hlen : xs.length + ys.length ≤ 1407374883512) (hbase : B ≤ w.heap.size) :
    ∃ v' w', (execOp a.eval o).run Tryz.prog w = .ok (.value v') w' ∧ OwnL 25 B 85 RTn w' v' (xs ++ ys) ∧ w.grownBy w' v.ownBlock := by
  obtain ⟨i, hi, hz, hs', hb⟩ := info_parts infoTn
  obtain ⟨v', w', hr, h2, h3, _⟩ := run_append_list_at 22 o.type i _ 100 Tryz.underlying22 hi hz hs' hb rfl (by omega) RTn.one (fun _ _ _ h _ => h) hown hu (by unfold maxLen; omega) (by omega) hbase
  refine ⟨v', w', ?_, h2, h3⟩
  unfold execOp
  simp only [ho, resolve, invoke, builtin, Sem.run_bind, Sem.run_pure, Result.andThen_ok, List.map_toArray, List.map_cons, List.map_nil, hs, hx, hr]
theorem wpList_append_T {ops : Array Oper} {rest : List Oper} {Q : Exit → Act → World → Prop} {o : Oper} {a : Act} {B : Nat} {w : World} {v u : Value} {xs ys : List Tn} {M : Nat} (hgd : Region.wanted o (yielded ops a.tmps) = true) (s x : Operand)
    (ho : o.op = .call { callee := .builtin .append, args := #[s, x], argTypes := #[22, 22] })
    (hs : a.eval s = v) (hx : a.eval x = u) (hown : OwnL 25 B 85 RTn w v xs) (hu : SlRep 25 M RTn w u ys) (hlen : xs.length + ys.length ≤ 1407374883512) (hbase : B ≤ w.heap.size)
    (h : ∀ v' w', OwnL 25 B 85 RTn w' v' (xs ++ ys) → Fut w w' ∨ w.grownBy w' v.ownBlock → w.grownBy w' v.ownBlock → wpList Tryz.prog ops Q rest (a.put o.dst v') w') : wpList Tryz.prog ops Q (o :: rest) a w := by
  obtain ⟨v', w', hr, h2, h3⟩ := exec_append_T s x ho hs hx hown hu hlen hbase
  exact wpList_of_run hgd hr (h v' w' h2 (.inr h3) h3)
def Tn.val (t : Tn) : Value := .agg (.bool t.off :: Rw.cells t.row).toArray
/-- Turn{Row: x} -/
theorem exec_turn {o : Oper} {a : Act} {w : World} {x : Rw} (y : Operand) (ho : o.op = .build 85 #[(1, y)]) (hy : a.eval y = Rw.val x) (hx : Rw.ok x) :
    (execOp a.eval o).run Tryz.prog w = .ok (.value (Tn.val ⟨false, x⟩)) w := by
  have hl := Rw.cells_len hx
  obtain ⟨arr', h1, h2, h3⟩ := fill_one (place := fun i => (#[(0, 1), (1, 24)] : Array (Nat × Nat))[i]?) (i := 1) (off := 1) (sz := 24) (v := Rw.val x) (zero := (.bool false :: Rw.cells zeroRow).toArray) rfl (by simp [Rw.val_cells, hl]) (by simp [Rw.cells_len zeroRow_ok]) []
  have e1 : arr' = (Value.bool false :: Rw.cells x).toArray := by
    refine Array.ext_getElem? fun j => ?_
    rw [h3]
    cases j with
    | zero => rfl
    | succ j =>
      by_cases hj : j < 24
      · rw [if_pos (by omega)]; simp [Rw.val_cells]
      · rw [if_neg (by omega)]
        have h0 := Rw.cells_len zeroRow_ok
        rw [Array.getElem?_eq_none (by simp; omega), Array.getElem?_eq_none (by simp; omega)]
  rw [e1] at h1
  have hz : ∀ w, (zeroValue 85).run Tryz.prog w = .ok zeroT w := fun w => by kernel_rfl
  have hu := Tryz.underlying85
  have hrun : (Instr.build 85 #[(1, Rw.val x)]).run Tryz.prog w = .ok (Tn.val ⟨false, x⟩) w := by
    unfold Instr.build
    simp only [Sem.run_bind, hz, Result.andThen_ok, run_underlying hu]
    have hm : (Array.mapM (fun (f : Field) => do pure (f.offset, ← sizeOf f.type)) (#[{ name := "Off", type := 4, offset := 0, embedded := false, tag := "", pkgPath := "", byteOffset := 0 }, { name := "Row", type := 27, offset := 1, embedded := false, tag := "", pkgPath := "", byteOffset := 4 }] : Array Field) : Sem (Array (Nat × Nat))).run Tryz.prog w = .ok #[(0, 1), (1, 24)] w := by kernel_rfl
    rw [hm]
    simp only [Result.andThen_ok]
    have h1' : Instr.fill (fun x => (#[(0, 1), (1, 24)] : Array (Nat × Nat))[x]?) zeroT.cells [(1, Rw.val x)] = some (Value.bool false :: Rw.cells x).toArray := h1
    rw [h1']
    rfl
  unfold execOp
  simp only [ho, List.map_toArray, List.map_cons, List.map_nil, hy, hrun, Sem.run_bind, Sem.run_pure, Result.andThen_ok]
theorem turnOne (w : World) {t : Tn} (hx : Rw.ok t.row) : SlRep 25 1 RTn (w.alloc (.cells (.bool t.off :: Rw.cells t.row).toArray 85)) (.slice (some ⟨w.heap.size, 0, none⟩) 1 1) [t] :=
  ⟨_, _, rfl, Nat.le_refl _, Nat.le_refl _, fun i y hy => by
    have hi : i = 0 := by
      have := (List.getElem?_eq_some_iff.1 hy).1
      simp at this; omega
    subst hi
    simp at hy
    subst hy
    refine ⟨_, 0, .bool t.off :: Rw.cells t.row, rfl, by simp [Rw.cells_len hx], fun j c hj => ?_, rfl, hx⟩
    rw [Nat.zero_mul, show 0 + (0 + j) = j by omega]
    have := heap_alloc_new w (.cells (.bool t.off :: Rw.cells t.row).toArray 85)
    exact cell_at this j c (by simpa using hj)⟩
theorem exec_one_T {o : Oper} {a : Act} {w : World} {t : Tn} (y : Operand) (ho : o.op = .buildSlice 22 1 #[(0, y)]) (hy : a.eval y = Tn.val t) (hx : Rw.ok t.row) :
    (execOp a.eval o).run Tryz.prog w = .ok (.value (.slice (some ⟨w.heap.size, 0, none⟩) 1 1)) (w.alloc (.cells (.bool t.off :: Rw.cells t.row).toArray 85)) := by
  obtain ⟨ie, hi, hz, hs, hb⟩ := info_parts infoTn
  have hl := Rw.cells_len hx
  have hcs : (Tn.val t).cells = (Value.bool t.off :: Rw.cells t.row).toArray := rfl
  obtain ⟨arr', h1, h2, h3⟩ := fill_one (place := fun i => some (i * 25, 25)) (i := 0) (off := 0) (sz := 25) (v := Tn.val t) (zero := ((Array.range (1 * 25)).map (zeroT.cells[· % zeroT.cells.size]!))) rfl (by rw [hcs]; simp [hl]) (by simp) []
  have e1 : arr' = (Value.bool t.off :: Rw.cells t.row).toArray := by
    refine Array.ext_getElem? fun j => ?_
    rw [h3]
    by_cases hj : j < 25
    · rw [if_pos (by omega), hcs]; simp
    · rw [if_neg (by omega)]
      rw [Array.getElem?_eq_none (by simp; omega), Array.getElem?_eq_none (by simp; omega)]
  have hf : Instr.fill (fun i => some (i * 25, 25)) ((Array.range (1 * 25)).map (zeroT.cells[· % zeroT.cells.size]!)) [(0, Tn.val t)] = some (Value.bool t.off :: Rw.cells t.row).toArray := by rw [h1, e1]; rfl
  have hrun := run_buildSlice (P := Tryz.prog) w 22 85 1 #[(0, Tn.val t)] (Value.bool t.off :: Rw.cells t.row).toArray ie zeroT Tryz.underlying22 hi hz (by rw [hs]; omega) (by rw [hs]; omega) (by rw [hs]; exact hf)
  unfold execOp
  simp only [ho, List.map_toArray, List.map_cons, List.map_nil, hy, hrun, Sem.run_bind, Sem.run_pure, Result.andThen_ok]

theorem RelI.weaken {B B' : Nat} {w : World} {b pb mb : Nat} {lv : Value} {ar gone : Nat} {xs : List Rw} (h : RelI B w b pb mb lv ar gone xs) (hB : B' ≤ B) : RelI B' w b pb mb lv ar gone xs :=
  ⟨h.blk, ⟨h.pl.blk, h.pl.list.base hB, h.pl.map, ⟨Nat.le_trans hB h.pl.base.1, Nat.le_trans hB h.pl.base.2⟩, h.pl.nodup⟩, Nat.le_trans hB h.base, h.wide⟩
/-- Two relations and a list, apart from one another. -/
structure Two (B : Nat) (w : World) (b pb mb : Nat) (lv : Value) (g : Nat) (xs : List Rw) (b' pb' mb' : Nat) (lv' : Value) (g' : Nat) (xs' : List Rw) (rv : Value) (rows : List Rw) : Prop where
  hr : RelI B w b pb mb lv 3 g xs
  hc : RelI B w b' pb' mb' lv' 3 g' xs'
  ho : OwnL 24 B 27 RR w rv rows
  d1 : ∀ j, foot b pb mb lv j → ¬ foot b' pb' mb' lv' j
  d2 : ∀ j, rv.ownBlock = some j → ¬ foot b pb mb lv j
  d3 : ∀ j, rv.ownBlock = some j → ¬ foot b' pb' mb' lv' j
section
variable {B : Nat} {w w2 : World} {b pb mb b' pb' mb' : Nat} {lv lv' rv lv2 : Value} {g g' g2 : Nat} {xs xs' rows xs2 : List Rw}
theorem Two.swap (h : Two B w b pb mb lv g xs b' pb' mb' lv' g' xs' rv rows) : Two B w b' pb' mb' lv' g' xs' b pb mb lv g xs rv rows :=
  ⟨h.hc, h.hr, h.ho, fun j h1 h2 => h.d1 j h2 h1, h.d3, h.d2⟩
theorem Two.fut (h : Two B w b pb mb lv g xs b' pb' mb' lv' g' xs' rv rows) (hf : Fut w w2) : Two B w2 b pb mb lv g xs b' pb' mb' lv' g' xs' rv rows :=
  ⟨h.hr.fut hf, h.hc.fut hf, h.ho.fut RR.stays hf, h.d1, h.d2, h.d3⟩
/-- The first one has turned. -/
theorem Two.left (h : Two B w b pb mb lv g xs b' pb' mb' lv' g' xs' rv rows) (hR : RelI B w2 b pb mb lv2 3 g2 xs2) (hO : Only (foot b pb mb lv) w w2) (hV : ∀ k, lv2.ownBlock = some k → pfoot pb mb lv k ∨ w.heap.size ≤ k) :
    Two B w2 b pb mb lv2 g2 xs2 b' pb' mb' lv' g' xs' rv rows := by
  have hf : ∀ j, foot b pb mb lv2 j → foot b pb mb lv j ∨ w.heap.size ≤ j := fun j hj => by
    rcases hj with h | h | h | h
    · exact .inl (.inl h)
    · exact .inl (.inr (.inl h))
    · exact .inl (.inr (.inr (.inl h)))
    · rcases hV j h with h' | h'
      · exact .inl (.inr h')
      · exact .inr h'
  refine ⟨hR, h.hc.only hO (fun j h1 h2 => h.d1 j h2 h1), h.ho.onlyR hO h.d2, fun j h1 h2 => ?_, fun j h1 h2 => ?_, h.d3⟩
  · rcases hf j h1 with h' | h'
    · exact h.d1 j h' h2
    · have := h.hc.lt j h2; omega
  · rcases hf j h2 with h' | h'
    · exact h.d2 j h1 h'
    · have := (h.ho.block j h1).2; omega
end
/-- Turns on and on. -/
def foldT (s : List Rw × Nat) (l : List Tn) : List Rw × Nat := l.foldl (turnL 3) s
theorem foldT_take (s : List Rw × Nat) (l : List Tn) (k : Nat) (hk : k < l.length) : foldT s (l.take (k + 1)) = turnL 3 (foldT s (l.take k)) l[k] := by
  unfold foldT
  rw [List.take_succ_eq_append_getElem hk, List.foldl_append]; rfl
theorem foldT_past (s : List Rw × Nat) (l : List Tn) (k : Nat) (hk : l.length ≤ k) : foldT s (l.take (k + 1)) = foldT s (l.take k) := by
  rw [List.take_of_length_le (by omega), List.take_of_length_le (by omega)]
theorem foldT_sum (s : List Rw × Nat) (l : List Tn) : (foldT s l).1.length + (foldT s l).2 ≤ s.1.length + s.2 + l.length := by
  unfold foldT
  induction l generalizing s with
  | nil => simp
  | cons t r ih =>
    simp only [List.foldl_cons, List.length_cons]
    have h1 := turnL_sum 3 s t
    have h2 := ih (turnL 3 s t)
    omega
theorem foldT_turns (l m : List Tn) : turnsL 3 (l ++ m) = foldT (turnsL 3 l) m := by simp [turnsL, foldT]
/-- The rows once more, as they came. -/
theorem again_turns : ∀ (xs ys : List Rw), (∀ x ∈ ys, rightP 3 x = true) → (xs ++ ys).Nodup → (ys.map fun x => (⟨false, x⟩ : Tn)).foldl (turnL 3) (xs, 0) = (xs ++ ys, 0)
  | xs, [], _, _ => by simp
  | xs, y :: ys, hr, hn => by
    have hy : y ∉ xs := fun h => by
      rw [List.nodup_append] at hn
      exact hn.2.2 y h y (by simp) rfl
    have h1 : turnL 3 (xs, 0) (⟨false, y⟩ : Tn) = (xs ++ [y], 0) := by
      unfold turnL addL
      simp [hr y (by simp), hy]
    rw [List.map_cons, List.foldl_cons, h1, again_turns (xs ++ [y]) ys (fun x h => hr x (by simp [h])) (by simpa using hn)]
    simp
theorem turns_right (ar : Nat) (l : List Tn) : ∀ s : List Rw × Nat, (∀ x ∈ s.1, rightP ar x = true) → ∀ x ∈ (l.foldl (turnL ar) s).1, rightP ar x = true := by
  induction l with
  | nil => intro s h; exact h
  | cons t r ih =>
    intro s h
    refine ih _ fun x hx => ?_
    unfold turnL at hx
    split at hx
    · exact h x (List.mem_of_mem_erase hx)
    · simp only at hx
      unfold addL at hx
      split at hx
      · rename_i hc
        rcases List.mem_append.1 hx with hx | hx
        · exact h x hx
        · rw [List.mem_singleton] at hx; subst hx
          simp only [Bool.and_eq_true] at hc; exact hc.1
      · exact h x hx
end Go.Proofs.YtijdichfaofjaaaGreatDoor
/- Select, in plain words: which numbers it tells. -/
namespace Go.Proofs.YtijdichfaofjaaaGreatDoor
open Go.RowKit Go.WideMaps
set_option linter.unusedSimpArgs false
set_option linter.unusedVariables false

/-- One of the numbers, where it lies. -/
theorem int_at {w : World} {A : Option Addr} {n cap M : Nat} {xs : List Int} (h : SlRep 1 M RI w (.slice A n cap) xs) {k : Nat} {i : Int} (hk : xs[k]? = some i) :
    ∃ b off, A = some ⟨b, off, none⟩ ∧ w.cell? ⟨b, off + k, none⟩ = some (.int .i64 i) := by
  obtain ⟨A1, cap1, hv, _, _, h3⟩ := h
  obtain ⟨b, off, cs, hA, hl, hc, hr⟩ := h3 k _ hk
  injection hv with hv _ _
  have hr' : cs = [.int .i64 i] := hr
  subst hr'
  refine ⟨b, off, hv.trans hA, ?_⟩
  have := hc 0 _ rfl
  simpa using this
/-- Do two rows agree in the first k columns, where the mask asks? -/
def fitB (m : Nat) (y x : Rw) : Nat → Bool
  | 0 => true
  | k + 1 => fitB m y x k && (decide (y.getD k 0 = x.getD k 0) || !m.testBit k)
theorem fitB_iff (m : Nat) (y x : Rw) : ∀ k, fitB m y x k = true ↔ ∀ i, i < k → m.testBit i = true → y.getD i 0 = x.getD i 0
  | 0 => by simp [fitB]
  | k + 1 => by
    unfold fitB
    rw [Bool.and_eq_true, fitB_iff m y x k, Bool.or_eq_true, decide_eq_true_iff]
    constructor
    · rintro ⟨h1, h2⟩ i hi hb
      by_cases hik : i = k
      · subst hik
        rcases h2 with h2 | h2
        · exact h2
        · rw [hb] at h2; cases h2
      · exact h1 i (by omega) hb
    · intro h
      refine ⟨fun i hi hb => h i (by omega) hb, ?_⟩
      cases hb : m.testBit k with
      | true => exact .inl (h k (by omega) hb)
      | false => exact .inr rfl
theorem getD_iff {x y : Rw} (hx : Rw.ok x) (hy : Rw.ok y) {i : Nat} (hi : i < 24) : y.getD i 0 = x.getD i 0 ↔ y[i]? = x[i]? := by
  have h1 : i < x.length := by rw [hx.1]; exact hi
  have h2 : i < y.length := by rw [hy.1]; exact hi
  simp [List.getD, h1, h2]
theorem fit_cut {m ar : Nat} (har : ar ≤ 24) {y x : Rw} (hy : Rw.ok y) (hx : Rw.ok x) : fitB m y x ar = decide (cutL ar m y = cutL ar m x) := by
  rw [Bool.eq_iff_iff, fitB_iff, decide_eq_true_iff, cutL_eq hy hx]
  constructor
  · intro h i hi hb
    have h2 : i < ar ∧ m.testBit i = true := by
      simp only [offB, Bool.or_eq_false_iff, decide_eq_false_iff_not, Bool.not_eq_false'] at hb
      exact ⟨by omega, hb.2⟩
    exact (getD_iff hx hy hi).1 (h i h2.1 h2.2)
  · intro h i hi hb
    refine (getD_iff hx hy (by omega)).2 (h i (by omega) ?_)
    simp only [offB, hb, Bool.not_true, Bool.or_false, decide_eq_false_iff_not]
    omega
theorem selK_more (ar m : Nat) (x : Rw) (xs : List Rw) (i : Nat) : ∀ d, ∃ r, selK ar m x xs (i + d) = selK ar m x xs i ++ r
  | 0 => ⟨[], by simp⟩
  | d + 1 => by
    obtain ⟨r, hr⟩ := selK_more ar m x xs i d
    exact ⟨r ++ _, by rw [show i + (d + 1) = i + d + 1 by omega, selK_succ, hr, List.append_assoc]⟩
theorem selK_at {ar m : Nat} {x : Rw} {xs : List Rw} {i : Nat} (hi : i < xs.length) (he : cutL ar m (xs.getD i zeroRow) = cutL ar m x) :
    (selK ar m x xs i).length < (selL ar m x xs).length ∧ (selL ar m x xs)[(selK ar m x xs i).length]? = some (i : Int) ∧ (selK ar m x xs (i + 1)).length = (selK ar m x xs i).length + 1 := by
  have h1 := selK_succ ar m x xs i
  rw [if_pos he] at h1
  obtain ⟨r, hr⟩ := selK_more ar m x xs (i + 1) (xs.length - (i + 1))
  rw [show i + 1 + (xs.length - (i + 1)) = xs.length by omega, h1] at hr
  unfold selL
  rw [hr, h1]
  refine ⟨by simp, by simp, by simp⟩
theorem selK_off {ar m : Nat} {x : Rw} {xs : List Rw} {i : Nat} (he : ¬ cutL ar m (xs.getD i zeroRow) = cutL ar m x) : (selK ar m x xs (i + 1)).length = (selK ar m x xs i).length := by
  rw [selK_succ, if_neg he, List.append_nil]
theorem cutL_none (ar : Nat) {x y : Rw} (hx : Rw.ok x) (hy : Rw.ok y) : cutL ar 0 y = cutL ar 0 x := (cutL_eq hy hx).2 fun i hi hb => by simp [offB] at hb
theorem selK_none {ar : Nat} {x : Rw} {xs : List Rw} (hx : Rw.ok x) (hxs : ∀ y ∈ xs, Rw.ok y) : ∀ k, k ≤ xs.length → selK ar 0 x xs k = (List.range k).map Int.ofNat
  | 0, _ => rfl
  | k + 1, hk => by
    have hy : Rw.ok (xs.getD k zeroRow) := by
      have h : k < xs.length := by omega
      rw [show xs.getD k zeroRow = xs[k] by simp [List.getD, h]]
      exact hxs _ (List.getElem_mem _)
    rw [selK_succ, if_pos (cutL_none ar hx hy), selK_none hx hxs k (by omega), List.range_succ, List.map_append]
    rfl
theorem sel_none_at {ar : Nat} {x : Rw} {xs : List Rw} (hx : Rw.ok x) (hxs : ∀ y ∈ xs, Rw.ok y) {k : Nat} (hk : k < xs.length) : (selL ar 0 x xs)[k]? = some (k : Int) := by
  unfold selL
  rw [selK_none hx hxs _ (Nat.le_refl _)]
  simp [hk]
theorem sel_none_len {ar : Nat} {x : Rw} {xs : List Rw} (hx : Rw.ok x) (hxs : ∀ y ∈ xs, Rw.ok y) : (selL ar 0 x xs).length = xs.length := by
  unfold selL
  rw [selK_none hx hxs _ (Nat.le_refl _)]
  simp
/-- Rows of one arity that agree in all its columns are the same. -/
theorem sel_same {ar m : Nat} (hm : ∀ i, i < ar → m.testBit i = true) {x y z : Rw} (hx : Rw.ok x) (hy : Rw.ok y) (hz : Rw.ok z) (ry : rightP ar y = true) (rz : rightP ar z = true)
    (ey : cutL ar m y = cutL ar m x) (ez : cutL ar m z = cutL ar m x) : y = z := by
  have e := (cutL_eq hy hz).1 (ey.trans ez.symm)
  refine List.ext_getElem? fun i => ?_
  by_cases hi : i < 24
  · by_cases ha : i < ar
    · exact e i hi (by simp only [offB, hm i ha, Bool.not_true, Bool.or_false, decide_eq_false_iff_not]; omega)
    · have key : ∀ u : Rw, Rw.ok u → rightP ar u = true → u[i]? = some 0 := fun u hu ru => by
        have hl : i < u.length := by rw [hu.1]; exact hi
        unfold rightP at ru
        rw [Bool.and_eq_true] at ru
        have h2 := List.all_eq_true.1 ru.2 u[i] (by
          refine List.mem_of_getElem? (i := i - ar) ?_
          rw [List.getElem?_drop, show ar + (i - ar) = i by omega]
          exact List.getElem?_eq_getElem hl)
        rw [List.getElem?_eq_getElem hl, of_decide_eq_true h2]
      rw [key y hy ry, key z hz rz]
  · rw [List.getElem?_eq_none (by rw [hy.1]; omega), List.getElem?_eq_none (by rw [hz.1]; omega)]
theorem sel_one {ar m : Nat} (hm : ∀ i, i < ar → m.testBit i = true) {x : Rw} {xs : List Rw} (hx : Rw.ok x) (hxs : ∀ y ∈ xs, Rw.ok y) (hr : ∀ y ∈ xs, rightP ar y = true) (hn : xs.Nodup) : (selL ar m x xs).length ≤ 1 := by
  unfold selL selK
  rw [List.length_map]
  refine Decidable.byContradiction fun hlt => ?_
  generalize hL : (List.range xs.length).filter (fun i => decide (cutL ar m (xs.getD i zeroRow) = cutL ar m x)) = L at hlt
  have hnd : L.Nodup := by rw [← hL]; exact List.nodup_range.sublist List.filter_sublist
  have hmem : ∀ i ∈ L, ∃ h : i < xs.length, cutL ar m xs[i] = cutL ar m x := fun i hi => by
    rw [← hL, List.mem_filter, List.mem_range, decide_eq_true_iff] at hi
    refine ⟨hi.1, ?_⟩
    have := hi.2
    rwa [show xs.getD i zeroRow = xs[i] by simp [List.getD, hi.1]] at this
  match L, hnd, hmem, hlt with
  | [], _, _, hlt => simp at hlt
  | [_], _, _, hlt => simp at hlt
  | i :: j :: r, hnd, hmem, _ =>
    obtain ⟨h1, e1⟩ := hmem i (by simp)
    obtain ⟨h2, e2⟩ := hmem j (by simp)
    have he := sel_same hm hx (hxs _ (List.getElem_mem h1)) (hxs _ (List.getElem_mem h2)) (hr _ (List.getElem_mem h1)) (hr _ (List.getElem_mem h2)) e1 e2
    have := (List.getElem_inj hn).1 he
    subst this
    simp at hnd
theorem select_any {B : Nat} {w : World} {b pb mb : Nat} {lv : Value} {ar gone m : Nat} {xs : List Rw} (hm : m < 2 ^ 32) (h : RelI B w b pb mb lv ar gone xs) (hl : xs.length ≤ 1407374883512) (x : Rw) (hx : Rw.ok x) :
    Calls Tryz.prog 6 #[.pointer (some ⟨b, 0, none⟩), .int .u32 m, Rw.val x] w fun e w' => ∃ v, e = .returned v ∧ OwnL 1 w.heap.size 3 RI w' v (selL ar m x xs) ∧ Fut w w' :=
  select_core hm (fun W hW => arity_any (h.fut hW)) (fun W hW => len_any (h.fut hW)) (fun W lb hW hs => range_iter (h.fut hW) hl 0 _ lb hs) (rows_ok h.pl.list.rep) hl x hx
theorem select_own {B : Nat} {w : World} {b pb mb : Nat} {lv : Value} {ar gone m : Nat} {xs : List Rw} (hm : m < 2 ^ 32) (h : RelI B w b pb mb lv ar gone xs) (hl : xs.length ≤ 1407374883512) (x : Rw) (hx : Rw.ok x) :
    Calls Tryz.prog 6 #[.pointer (some ⟨b, 0, none⟩), .int .u32 m, Rw.val x] w fun e w' => ∃ v, e = .returned v ∧ OwnL 1 w.heap.size 3 RI w' v (selL ar m x xs) ∧ Fut w w' ∧ (selL ar m x xs = [] → v.ownBlock = none) :=
  select_coreN hm (fun W hW => arity_any (h.fut hW)) (fun W hW => len_any (h.fut hW)) (fun W lb hW hs => range_iter (h.fut hW) hl 0 _ lb hs) (rows_ok h.pl.list.rep) hl x hx
theorem fitB_step (m : Nat) (y x : Rw) (q : Nat) : fitB m y x (q + 1) = (fitB m y x q && ((y[q]?.getD 0 == x[q]?.getD 0) || !m.testBit q)) := by
  have e : decide (y.getD q 0 = x.getD q 0) = (y[q]?.getD 0 == x[q]?.getD 0) := by
    rw [Bool.eq_iff_iff, decide_eq_true_iff, beq_iff_eq]
    exact Iff.rfl
  rw [fitB, e]
theorem bit15 {q : Nat} (hq : q < 4) : Nat.testBit 15 q = true := by
  match q, hq with
  | 0, _ => rfl
  | 1, _ => rfl
  | 2, _ => rfl
  | 3, _ => rfl
theorem shr_is {m k : Nat} (hm : m < 2 ^ 32) : (bits .and .u32 ((m : Int) / 2 ^ k) 1 == 0) = !m.testBit k := by
  have := shr_bit (m := m) (k := k) hm
  rw [show ((m / 2 ^ k : Nat) : Int) = (m : Int) / 2 ^ k by simp] at this
  rw [Bool.eq_iff_iff, beq_iff_eq, this]
  cases m.testBit k <;> simp
end Go.Proofs.YtijdichfaofjaaaGreatDoor
