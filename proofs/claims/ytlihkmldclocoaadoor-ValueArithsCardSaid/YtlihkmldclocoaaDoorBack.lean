/- value.back and its closure. -/
import Derived.Test.YtlihkmldclocoaaDoorChar
import Derived.Test.YtlihkmldclocoaaDoorFrame
namespace Go.Proofs.YtlihkmldclocoaaDoor
open Go.RowKit
set_option linter.unusedSimpArgs false
set_option linter.unusedVariables false

/-- The closure's variables: what still is free, where the character begins, the list, the text. -/
def BackS (w : World) (be bw bo bs g : Nat) (s : ByteArray) (en wa : Nat) (row : List UInt8) : Prop :=
  w.heap[be]? = some (.cells #[.int .i64 en] 3 (0, 0)) ∧ w.heap[bw]? = some (.cells #[.int .i64 wa] 3 (0, 0)) ∧
  w.heap[bo]? = some (.cells #[.slice (some ⟨g, 0, none⟩) s.size s.size] 93 (0, 0)) ∧ w.heap[bs]? = some (.cells #[.string s] 9 (0, 0)) ∧
  w.heap[g]? = some (.cells (row.map fun b => Value.int .u8 b.toNat).toArray 5 (0, 0)) ∧ row.length = s.size
theorem byte1 : (Tryd.prog.info? 5).map (fun i => i.size) = some 1 := by kernel_rfl
theorem extract_cells (s : ByteArray) (a b : Nat) (h1 : a ≤ b) (h2 : b ≤ s.size) : Lib.strCells (s.extract a b) = ((s.data.toList.drop a).take (b - a)).map fun x => Value.int .u8 x.toNat := by
  rw [Lib.strCells, Lib.extract_data]
theorem extract_len (s : ByteArray) (a b : Nat) (h1 : a ≤ b) (h2 : b ≤ s.size) : (s.extract a b).size = b - a := by
  rw [ByteArray.size_extract, Nat.min_eq_left h2]
def mid (row : List UInt8) (e : Nat) (c : List UInt8) : List UInt8 := row.take e ++ c ++ row.drop (e + c.length)

theorem mid_len (row : List UInt8) (e : Nat) (c : List UInt8) (h : e + c.length ≤ row.length) : (mid row e c).length = row.length := by
  simp [mid]; omega
theorem mid_drop (row : List UInt8) (e : Nat) (c : List UInt8) (h : e ≤ row.length) : (mid row e c).drop e = c ++ row.drop (e + c.length) := by
  have : (row.take e).length = e := by simp; omega
  rw [mid, List.append_assoc, List.drop_append_of_le_length (by omega), List.drop_of_length_le (by omega), List.nil_append]
theorem mid_map (row : List UInt8) (e : Nat) (c : List UInt8) (n : Nat) (hn : c.length = n) (f : UInt8 → Value) : (row.map f).take e ++ c.map f ++ (row.map f).drop (e + n) = (mid row e c).map f := by
  simp [mid, hn]
theorem seg_len (s : ByteArray) (a b : Nat) (h1 : a ≤ b) (h2 : b ≤ s.size) : ((s.data.toList.drop a).take (b - a)).length = b - a := by
  rw [List.length_take, List.length_drop, ← Lib.size_eq]; omega

set_option maxHeartbeats 1000000 in
set_option maxRecDepth 100000 in
theorem put_any (w : World) (be bw bo bs g : Nat) (s : ByteArray) (en wa i : Nat) (row : List UInt8) (h : BackS w be bw bo bs g s en wa row) (hs : s.size ≤ 140737488351232)
    (hd : be ≠ bw ∧ be ≠ bo ∧ be ≠ bs ∧ be ≠ g ∧ bw ≠ bo ∧ bw ≠ bs ∧ bw ≠ g) (hw : wa ≤ i) (hi : i ≤ s.size) (he : en + wa = s.size) :
    Calls Tryd.prog 74 #[.int .i64 i, .pointer (some ⟨be, 0, none⟩), .pointer (some ⟨bw, 0, none⟩), .pointer (some ⟨bo, 0, none⟩), .pointer (some ⟨bs, 0, none⟩)] w fun e w' =>
      e = .returned (.tuple #[]) ∧ BackS w' be bw bo bs g s (s.size - i) i (mid row (s.size - i) ((s.data.toList.drop wa).take (i - wa))) ∧ Only [be, bw, g] w w' := by
  obtain ⟨h1, h2, h3, h4, h5, h6⟩ := h
  have c1 := cell_of_one h1; have f1 := free_of_one h1; have c2 := cell_of_one h2; have f2 := free_of_one h2
  obtain ⟨en', hen⟩ : ∃ k, s.size - i = k := ⟨_, rfl⟩
  have q1 : (en : Int) - ((i : Int) - wa) = en' := by omega
  have q2 : en' ≤ s.size := by omega
  have H := Lib.hid (And.intro h1 (And.intro h2 (And.intro h3 (And.intro h4 (And.intro h5 h6)))))
  have D := Lib.hid hd
  rw [hen]
  clear h1 h2 h3 h4 h5 h6 hd
  go_enter Tryd.func74, Tryd.ntmps74
  have i1 : (wa : Int) ≤ i := by omega
  have i2 : (i : Int) ≤ s.size := by omega
  have i3 : (en' : Int) ≤ s.size := by omega
  go_wp2
  obtain ⟨W, hW⟩ : ∃ W, W = w.setCell ⟨be, 0, none⟩ (.int .i64 en') := ⟨_, rfl⟩
  rw [← hW]
  have OW : Only [be, bw, g] w W := hW ▸ Only.set w be _ (by simp)
  have m1 : W.heap[be]? = some (.cells #[.int .i64 en'] 3 (0, 0)) := hW ▸ one_setCell H.out.1
  have OW1 : Only [be] w W := hW ▸ Only.set w be _ (by simp)
  have m2 := OW1.at_ H.out.2.1 (by simpa using Ne.symm D.out.1)
  have m3 := OW1.at_ H.out.2.2.1 (by simpa using Ne.symm D.out.2.1)
  have m4 := OW1.at_ H.out.2.2.2.1 (by simpa using Ne.symm D.out.2.2.1)
  have m5 := OW1.at_ H.out.2.2.2.2.1 (by simpa using Ne.symm D.out.2.2.2.1)
  clear hW OW1 c1 f1 c2 f2
  refine wp_graph 7 [.d, .d, .d, .d, .d, .d, .d] (by kernel_rfl) (by kernel_rfl) (by kernel_rfl) ?_
  simp only [List.take_succ_cons, List.take_zero, List.drop_succ_cons, List.drop_zero, Exs]
  iterate 7 apply Exists.intro
  apply Run.valG (wanted_none rfl _)
  · intro w1 h1 hk
    have hh := (Fut.drew W).trans h1; have k1 := hh.cell (cell_of_one m1); have k2 := hh.cell (cell_of_one m2); have k3 := hh.cell (cell_of_one m3); have k4 := hh.cell (cell_of_one m4)
    have hcw := fun b o => Below.cell (p := ⟨b, o, none⟩) h1
    go_simp; rfl
  simp only [Act.put, List.setIfInBounds_toArray, List.set_cons_succ, List.set_cons_zero, List.nil_append, List.cons_append]
  apply Run.valG (wanted_none rfl _)
  · intro w1 h1 hk
    have hh := (Fut.drew W).trans h1; have k1 := hh.cell (cell_of_one m1); have k2 := hh.cell (cell_of_one m2); have k3 := hh.cell (cell_of_one m3); have k4 := hh.cell (cell_of_one m4)
    have hcw := fun b o => Below.cell (p := ⟨b, o, none⟩) h1
    go_simp; rfl
  simp only [Act.put, List.setIfInBounds_toArray, List.set_cons_succ, List.set_cons_zero, List.nil_append, List.cons_append]
  apply Run.valG (wanted_none rfl _)
  · intro w1 h1 hk
    have hh := (Fut.drew W).trans h1; have k1 := hh.cell (cell_of_one m1); have k2 := hh.cell (cell_of_one m2); have k3 := hh.cell (cell_of_one m3); have k4 := hh.cell (cell_of_one m4)
    have hcw := fun b o => Below.cell (p := ⟨b, o, none⟩) h1
    go_simp; rfl
  simp only [Act.put, List.setIfInBounds_toArray, List.set_cons_succ, List.set_cons_zero, List.nil_append, List.cons_append]
  apply Run.valG (wanted_none rfl _)
  · intro w1 h1 hk
    have hh := (Fut.drew W).trans h1; have k1 := hh.cell (cell_of_one m1); have k2 := hh.cell (cell_of_one m2); have k3 := hh.cell (cell_of_one m3); have k4 := hh.cell (cell_of_one m4)
    have hcw := fun b o => Below.cell (p := ⟨b, o, none⟩) h1
    go_simp; rfl
  simp only [Act.put, List.setIfInBounds_toArray, List.set_cons_succ, List.set_cons_zero, List.nil_append, List.cons_append]
  apply Run.valG (wanted_none rfl _)
  · intro w1 h1 hk
    have hh := (Fut.drew W).trans h1; have k1 := hh.cell (cell_of_one m1); have k2 := hh.cell (cell_of_one m2); have k3 := hh.cell (cell_of_one m3); have k4 := hh.cell (cell_of_one m4)
    have hcw := fun b o => Below.cell (p := ⟨b, o, none⟩) h1
    go_simp; rfl
  simp only [Act.put, List.setIfInBounds_toArray, List.set_cons_succ, List.set_cons_zero, List.nil_append, List.cons_append]
  apply Run.valG (wanted_none rfl _)
  · intro w1 h1 hk
    have hh := (Fut.drew W).trans h1; have k1 := hh.cell (cell_of_one m1); have k2 := hh.cell (cell_of_one m2); have k3 := hh.cell (cell_of_one m3); have k4 := hh.cell (cell_of_one m4)
    have hcw := fun b o => Below.cell (p := ⟨b, o, none⟩) h1
    go_simp; rfl
  simp only [Act.put, List.setIfInBounds_toArray, List.set_cons_succ, List.set_cons_zero, List.nil_append, List.cons_append]
  apply Run.valG (wanted_none rfl _)
  · intro w1 h1 hk
    have hh := (Fut.drew W).trans h1; have k1 := hh.cell (cell_of_one m1); have k2 := hh.cell (cell_of_one m2); have k3 := hh.cell (cell_of_one m3); have k4 := hh.cell (cell_of_one m4)
    have hcw := fun b o => Below.cell (p := ⟨b, o, none⟩) h1
    go_simp; rfl
  simp only [Act.put, List.setIfInBounds_toArray, List.set_cons_succ, List.set_cons_zero, List.nil_append, List.cons_append]
  apply Run.done
  intro w2 h2 hk
  clear hk
  all_goals
    have F := (Fut.drew W).trans h2
    have ex := extract_len s wa i hw hi
    refine wpList_copy_str (by go_simp) _ _ 93 9 5 rfl Tryd.underlying93 byte1 g en' _ _ _ (s.extract wa i) rfl rfl (row.map fun b => Value.int .u8 b.toNat) 5 (Fut.block F m5) ?c1 ?c2 ?c3 ?_
    case c1 => rw [ex]; simp; omega
    case c2 => intro h; rw [ex] at h; simp; omega
    case c3 => rw [ex]; simp; have := H.out.2.2.2.2.2; omega
    intro w3 r3 o3
    have n1 := o3.at_ (Fut.block F m1) (by simpa using D.out.2.2.2.1)
    have n2 := o3.at_ (Fut.block F m2) (by simpa using D.out.2.2.2.2.2.2)
    have c2 := cell_of_one n2
    have f2 := free_of_one n2
    go_wp2
    all_goals
      go_end0
      have sg := seg_len s wa i hw hi
      rw [extract_cells s wa i hw hi, ex, mid_map row en' _ (i - wa) sg] at r3
      have O4 : Only [bw] w3 (w3.setCell ⟨bw, 0, none⟩ (.int .i64 i)) := Only.set w3 bw _ (by simp)
      refine ⟨rfl, ⟨O4.at_ n1 (by simpa using D.out.1), one_setCell n2, O4.at_ (o3.at_ (Fut.block F m3) ?_) (by simpa using Ne.symm D.out.2.2.2.2.1), O4.at_ (o3.at_ (Fut.block F m4) ?_) (by simpa using Ne.symm D.out.2.2.2.2.2.1), O4.at_ r3 (by simpa using Ne.symm D.out.2.2.2.2.2.2), ?_⟩, ?_⟩
      · have h5 := H.out.2.2.2.2.1; have h3 := H.out.2.2.1
        simp; rintro rfl
        rw [h3] at h5; simp at h5
      · have h5 := H.out.2.2.2.2.1; have h3 := H.out.2.2.2.1
        simp; rintro rfl
        rw [h3] at h5; simp at h5
      · rw [mid_len _ _ _ (by rw [sg, H.out.2.2.2.2.2]; omega)]; exact H.out.2.2.2.2.2
      · exact OW.trans ((Only.fut F).trans ((o3.more (by simp)).trans (O4.more (by simp))))

/-- What is put and what is still to come. -/
def BInv (l : List UInt8) (n wa pos : Nat) (row : List UInt8) : Prop :=
  wa ≤ pos ∧ pos ≤ n ∧ backL l = (chars (l.drop pos)).reverse.flatten ++ (l.drop wa).take (pos - wa) ++ row.drop (n - wa)
theorem BInv.next {l : List UInt8} {wa pos : Nat} {row : List UInt8} (h : BInv l l.length wa pos row) (hr : row.length = l.length) (hp : pos < l.length) :
    BInv l l.length pos (pos + wd (l.drop pos)) (mid row (l.length - pos) ((l.drop wa).take (pos - wa))) := by
  obtain ⟨h1, h2, h3⟩ := h
  have hne : l.drop pos ≠ [] := fun e => by have := congrArg List.length e; simp at this; omega
  have hw := wd_le _ hne
  rw [List.length_drop] at hw
  have hsl : ((l.drop wa).take (pos - wa)).length = pos - wa := by rw [List.length_take, List.length_drop]; omega
  refine ⟨by omega, by omega, ?_⟩
  rw [h3, mid_drop _ _ _ (by omega), hsl, show l.length - pos + (pos - wa) = l.length - wa by omega, chars_cons _ hne, show pos + wd (l.drop pos) - pos = wd (l.drop pos) by omega]
  simp [List.drop_drop]
theorem BInv.last {l : List UInt8} {wa : Nat} {row : List UInt8} (h : BInv l l.length wa l.length row) (hr : row.length = l.length) :
    mid row (l.length - l.length) ((l.drop wa).take (l.length - wa)) = backL l := by
  obtain ⟨h1, h2, h3⟩ := h
  have hsl : ((l.drop wa).take (l.length - wa)).length = l.length - wa := by rw [List.length_take, List.length_drop]; omega
  rw [h3, List.drop_of_length_le (Nat.le_refl _), chars_nil, mid, hsl]
  simp

/-- The world at the loop's head. -/
def backW (w : World) (s : ByteArray) (row : Array Value) : World :=
  ((((w.alloc (.cells #[.string s] 9)).alloc (.cells row 5)).alloc (.cells #[.slice (some ⟨w.heap.size + 1, 0, none⟩) s.size s.size] 93)).alloc (.cells #[.int .i64 s.size] 3)).alloc (.cells #[.int .i64 0] 3)
theorem new_at (w : World) (o : Obj) (n : Nat) (h : n = w.heap.size) : (w.alloc o).heap[n]? = some o := by subst h; exact heap_alloc_new w o
theorem old_at {w : World} {o p : Obj} {k : Nat} (h : w.heap[k]? = some p) : (w.alloc o).heap[k]? = some p := Fut.block (Fut.alloc w o) h
theorem backW_at (w : World) (s : ByteArray) (row : List UInt8) (hr : row.length = s.size) :
    BackS (backW w s (row.map fun b => Value.int .u8 b.toNat).toArray) (w.heap.size + 1 + 1 + 1) (w.heap.size + 1 + 1 + 1 + 1) (w.heap.size + 1 + 1) w.heap.size (w.heap.size + 1) s s.size 0 row := by
  unfold backW
  exact ⟨old_at (new_at _ _ _ (by simp)), new_at _ _ _ (by simp), old_at (old_at (new_at _ _ _ (by simp))), old_at (old_at (old_at (old_at (new_at _ _ _ rfl)))), old_at (old_at (old_at (new_at _ _ _ (by simp)))), hr⟩
theorem backW_fut (w : World) (s : ByteArray) (row : Array Value) : Fut w (backW w s row) := by
  unfold backW
  exact ((((Fut.alloc w _).trans (Fut.alloc _ _)).trans (Fut.alloc _ _)).trans (Fut.alloc _ _)).trans (Fut.alloc _ _)
theorem backW_size (w : World) (s : ByteArray) (row : Array Value) : (backW w s row).heap.size = w.heap.size + 1 + 1 + 1 + 1 + 1 := by
  unfold backW; simp
theorem BackS.only {w w' : World} {be bw bo bs g : Nat} {s : ByteArray} {en wa : Nat} {row : List UInt8} {l : List Nat} (h : BackS w be bw bo bs g s en wa row) (k : Only l w w') (hl : be ∉ l ∧ bw ∉ l ∧ bo ∉ l ∧ bs ∉ l ∧ g ∉ l) : BackS w' be bw bo bs g s en wa row :=
  ⟨k.at_ h.1 hl.1, k.at_ h.2.1 hl.2.1, k.at_ h.2.2.1 hl.2.2.1, k.at_ h.2.2.2.1 hl.2.2.2.1, k.at_ h.2.2.2.2.1 hl.2.2.2.2, h.2.2.2.2.2⟩
theorem cut_fut {w w1 w2 : World} {l : List Nat} (h : Fut w w1) (k : Only l w1 w2) (hl : ∀ g ∈ l, w.heap.size ≤ g) : Fut w w2 :=
  Below.trans h (k.below h.size hl)
theorem zeros_row (n : Nat) : (madeCells #[Value.int .u8 0] n) = ((List.replicate n (0 : UInt8)).map fun b => Value.int .u8 b.toNat).toArray := by
  refine Array.ext (by simp [madeCells]) fun i h1 h2 => ?_
  simp [madeCells, Nat.mod_one]

set_option maxHeartbeats 400000 in
set_option maxRecDepth 100000 in
theorem back_any (s : ByteArray) (w : World) (hs : s.size ≤ 140737488351232) :
    Calls Tryd.prog 41 #[.string s] w fun e w' => e = .returned (.string ⟨(backL s.data.toList).toArray⟩) ∧ Fut w w' := by
  obtain ⟨i0, hi0, hz0, hz1, hz2⟩ := info_parts (show (Tryd.prog.info? 5).map (fun i => (i.zero, i.size, i.bytes)) = some (some (.int .u8 0), 1, 1) by kernel_rfl)
  have hmk : ∀ W : World, (Instr.makeSlice 93 (.int .i64 s.size) (.int .i64 s.size)).run Tryd.prog W = .ok (.slice (some ⟨W.heap.size, 0, none⟩) s.size s.size) (W.alloc (.cells (madeCells #[Value.int .u8 0] s.size) 5)) := fun W => by
    have := run_make_rowN (P := Tryd.prog) 93 5 i0 _ Tryd.underlying93 hi0 hz0 .i64 .i64 s.size s.size (Nat.le_refl _) (by rw [hz2]; omega) (by omega) W
    rw [hz1, Nat.mul_one] at this
    exact this
  have hmf : ∀ (fn : Fn) (first cap : Array Value) (w : World), (Instr.makeFunc fn first cap).run Tryd.prog w = .ok (.func fn first cap) w := fun _ _ _ _ => rfl
  have hl : s.data.toList.length = s.size := (Lib.size_eq s).symm
  have HS := Lib.hid hs
  rw [zeros_row] at hmk
  generalize hrow : List.replicate s.size (0 : UInt8) = row0 at hmk
  have hr0 : row0.length = s.size := by rw [← hrow]; simp
  clear hrow hi0 hz0 hz1 hz2
  go_enter Tryd.func41, Tryd.ntmps41
  go_wp2_with fail
  have e0 := backW_at w s row0 hr0
  have e1 := backW_fut w s (row0.map fun b => Value.int .u8 b.toNat).toArray
  have e2 := backW_size w s (row0.map fun b => Value.int .u8 b.toNat).toArray
  obtain ⟨W, hW⟩ : ∃ W, W = backW w s (row0.map fun b => Value.int .u8 b.toNat).toArray := ⟨_, rfl⟩
  rw [← hW] at e0 e1 e2
  have hI : Only [w.heap.size + 1 + 1 + 1 + 1 + 1] W (W.iter s 0) := Only.fut (Fut.alloc W _)
  have hW2 := hW
  unfold backW at hW2
  rw [← hW2]
  have e3 : (W.iter s 0).heap[w.heap.size + 1 + 1 + 1 + 1 + 1]? = some (.stringIter s 0) := new_at W _ _ e2.symm
  have e4 : BackS (W.iter s 0) (w.heap.size + 1 + 1 + 1) (w.heap.size + 1 + 1 + 1 + 1) (w.heap.size + 1 + 1) w.heap.size (w.heap.size + 1) s s.size 0 row0 := e0.only (Only.fut (l := []) (Fut.alloc W (.stringIter s 0))) (by simp)
  have e5 : Fut w (W.iter s 0) := e1.trans (Fut.alloc W _)
  have E := Lib.hid (And.intro e3 (And.intro e4 e5))
  clear hW hW2 e0 e1 e2 hI e3 e4 e5
  generalize W.iter s 0 = w0 at E ⊢
  obtain ⟨bi, hbi⟩ : ∃ b, b = w.heap.size + 1 + 1 + 1 + 1 + 1 := ⟨_, rfl⟩
  rw [← hbi] at E ⊢
  have HBI := Lib.hid hbi
  clear hbi
  go_loopw [7] (fun _ wr => ∃ (pos wa : Nat) (row : List UInt8), Hid (wr.heap[bi]? = some (.stringIter s pos)) ∧ Hid (BackS wr (w.heap.size + 1 + 1 + 1) (w.heap.size + 1 + 1 + 1 + 1) (w.heap.size + 1 + 1) w.heap.size (w.heap.size + 1) s (s.size - wa) wa row) ∧ Hid (BInv s.data.toList s.data.toList.length wa pos row) ∧ Hid (Fut w wr)) (fun _ wr => s.size - wr.iterPos bi)
  case atStart => exact ⟨0, 0, row0, Lib.hid E.out.1, Lib.hid E.out.2.1, Lib.hid ⟨Nat.le_refl _, Nat.zero_le _, by simp [backL, hl, hr0]⟩, Lib.hid E.out.2.2⟩
  case round =>
    obtain ⟨pos, wa, row, hit, hB, hinv, hF⟩ := hrel
    by_cases hp : pos < s.size
    · have hnx : ∀ ty, (Instr.next (.pointer (some ⟨bi, 0, none⟩)) true ty).run Tryd.prog _ = _ := fun ty => run_next_at _ bi s pos ty hit.out hp
      have hb := hinv.out
      have hnum := HBI.out
      have PM := Lib.hid (show World.iterPos wr bi = pos by simp [World.iterPos, hit.out])
      have hst : Only [bi] wr (World.stepIter wr bi s (pos + (Utf8.decode s pos).2)) := Only.step wr bi s _ (by simp)
      have hB1 := hB.out.only hst (by simp; omega)
      have hI1 := stepIter_at wr bi s (pos + (Utf8.decode s pos).2) (lt_of_block hit.out)
      have hF1 := cut_fut hF.out hst (by simp; omega)
      have hrl := hB.out.2.2.2.2.2
      have K := Lib.hid (And.intro hB1 (And.intro hI1 (And.intro hF1 (And.intro hb (And.intro hrl hnum)))))
      clear hb hnum hst hB1 hI1 hF1 hrl hit hinv hF hB
      go_wp2_with fail
      refine (put_any _ (w.heap.size + 1 + 1 + 1) (w.heap.size + 1 + 1 + 1 + 1) (w.heap.size + 1 + 1) w.heap.size (w.heap.size + 1) s (s.size - wa) wa pos row K.out.1 HS.out (by omega) K.out.2.2.2.1.1 (by omega) (by have := K.out.2.2.2.1.1; omega)).mono ?_
      rintro e w1 ⟨rfl, hB2, hO⟩
      go_wp2
      have hnum := K.out.2.2.2.2.2
      have hd := decode_wd s pos hp
      have hnx2 := BInv.next (row := row) K.out.2.2.2.1 (by rw [hl]; exact K.out.2.2.2.2.1) (by omega)
      rw [hl] at hnx2
      have hit2 := hO.at_ K.out.2.1 (by simp; omega)
      have hwp := wd_pos (s.data.toList.drop pos)
      rw [hd] at hit2
      refine ⟨⟨pos + wd (s.data.toList.drop pos), pos, _, Lib.hid hit2, Lib.hid hB2, Lib.hid (by rw [hl]; exact hnx2), Lib.hid (cut_fut K.out.2.2.1 hO (by simp; omega))⟩, ?_⟩
      rw [show World.iterPos w1 bi = pos + wd (s.data.toList.drop pos) by simp [World.iterPos, hit2]]
      have := PM.out
      omega
    · have hnx : ∀ ty, (Instr.next (.pointer (some ⟨bi, 0, none⟩)) true ty).run Tryd.prog _ = _ := fun ty => run_next_stop _ bi s pos ty hit.out hp
      have hb := hinv.out
      have hps : pos = s.size := by have := hb.2.1; omega
      subst hps
      have K := Lib.hid (And.intro hB.out (And.intro hF.out (And.intro hb hB.out.2.2.2.2.2)))
      have x4 := cell_of_one hB.out.2.2.2.1
      clear hb hit hinv hF hB
      go_wp2_with fail
      refine (put_any _ (w.heap.size + 1 + 1 + 1) (w.heap.size + 1 + 1 + 1 + 1) (w.heap.size + 1 + 1) w.heap.size (w.heap.size + 1) s (s.size - wa) wa s.size row K.out.1 HS.out (by omega) K.out.2.2.1.1 (by omega) (by have := K.out.2.2.1.1; omega)).mono ?_
      rintro e w1 ⟨rfl, hB2, hO⟩
      have hlast := BInv.last (row := row) (by rw [hl]; have := K.out.2.2.1; rw [hl] at this; exact this) (by rw [hl]; exact K.out.2.2.2)
      rw [hl] at hlast
      rw [hlast] at hB2
      have x3 := cell_of_one hB2.2.2.1
      have hcv : (convert 93 9 (.slice (some ⟨w.heap.size + 1, 0, none⟩) s.size s.size)).run Tryd.prog w1 = .ok (.string ⟨(backL s.data.toList).toArray⟩) w1 := by
        have := run_convert_bytes_back (P := Tryd.prog) w1 93 9 5 ⟨w.heap.size + 1, 0, none⟩ s.size (backL s.data.toList) Tryd.underlying93 Tryd.underlying5 Tryd.underlying9 (fun j hj => by
          have h5 := hB2.2.2.2.2.1
          rw [show (⟨w.heap.size + 1, 0, none⟩ : Addr).add j = ⟨w.heap.size + 1, j, none⟩ by unfold Addr.add; split <;> simp_all]
          simp [World.cell?, h5, hj])
        rw [hB2.2.2.2.2.2] at this
        exact this
      have G := Lib.hid (cut_fut K.out.2.1 hO (by simp; omega))
      clear hlast hB2 hO
      go_wp2
      go_ret
      exact ⟨rfl, G.out⟩
end Go.Proofs.YtlihkmldclocoaaDoor
