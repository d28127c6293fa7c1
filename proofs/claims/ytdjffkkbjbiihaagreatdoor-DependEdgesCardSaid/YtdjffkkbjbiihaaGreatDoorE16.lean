/- Parts. -/
import Derived.Test.YtdjffkkbjbiihaaGreatDoorE15
set_option linter.unusedSimpArgs false
set_option linter.unusedVariables false
namespace Go.Proofs.YtdjffkkbjbiihaaGreatDoor
open Go.RowKit Go.WideMaps
def xB : ByteArray := ⟨#[120]⟩
def yB : ByteArray := ⟨#[121]⟩
def zB : ByteArray := ⟨#[122]⟩
def ruZ : Ru := ⟨zB, [], [ltZ 2 yB, ltZ 1 zB]⟩
def ruY : Ru := ⟨yB, [], [ltZ 1 xB]⟩
def otherP : List Ru := [ruZ, ruY]
theorem set_foldO : ∀ (l : List Value) (off k : Nat) (arr : Array Value), off + k + l.length ≤ arr.size → (l.zipIdx k).foldl (fun cs (x : Value × Nat) => cs.setIfInBounds (off + x.2) x.1) arr = (arr.toList.take (off + k) ++ l ++ arr.toList.drop (off + k + l.length)).toArray
 | [], off, k, arr, h => by simp
 | v :: r, off, k, arr, h => by
  rw [List.length_cons] at h
  rw [List.zipIdx_cons, List.foldl_cons, set_foldO r off (k + 1) _ (by simp; omega)]
  congr 1
  have hk : off + k < arr.toList.length := by simp; omega
  rw [Array.toList_setIfInBounds, List.take_set, List.drop_set]
  have hz0 : off + (k + 1) - (off + k + 1) = 0 := by omega
  simp only [show ¬ off + (k + 1) + r.length ≤ off + k by omega, if_false]
  rw [List.set_eq_take_append_cons_drop]
  simp only [List.length_take, show off + k < min (off + (k + 1)) arr.toList.length by omega, if_true]
  rw [List.take_take, show min (off + k) (off + (k + 1)) = off + k by omega, List.drop_take]
  simp [List.length_cons, hz0, show off + (k + 1) + r.length = off + k + (r.length + 1) by omega]
theorem run_slice2 {P : Program} {t e : TypeId} {c1 c2 : List Value} {z : Value} {n m : Nat} (ht : P.underlying t = some (.slice e)) (hi : (P.info? e).map (fun i => (i.zero, i.size, i.bytes)) = some (some z, n, m)) (h1 : c1.length = n) (h2 : c2.length = n) (hp : 0 < n) (hsm : n ≤ 2 ^ 20) (w : World) :
  (Instr.buildSlice t 2 #[(0, .agg c1.toArray), (1, .agg c2.toArray)]).run P w = .ok (.slice (some ⟨w.heap.size, 0, none⟩) 2 2) (w.alloc (.cells (c1 ++ c2).toArray e)) := by
 obtain ⟨i, hq, hz, hs, _⟩ := info_parts hi
 refine run_buildSlice w t e 2 _ _ i z ht hq hz (by rw [hs]; omega) (by rw [hs]; omega) ?_
 rw [hs]
 have e1 : ∀ c : List Value, (Value.agg c.toArray).cells = c.toArray := fun c => rfl
 obtain ⟨arr, harr⟩ : ∃ a, ((Array.range (2 * n)).map (z.cells[· % z.cells.size]!)) = a := ⟨_, rfl⟩
 have hsz : arr.size = 2 * n := by rw [← harr]; simp
 rw [harr]
 have f1 := set_foldO c1 0 0 arr (by omega)
 have f2 : ∀ a2 : Array Value, a2.size = 2 * n → (c2.zipIdx 0).foldl (fun cs (x : Value × Nat) => cs.setIfInBounds (n + x.2) x.1) a2 = (a2.toList.take n ++ c2).toArray := fun a2 ha => by
  rw [set_foldO c2 n 0 a2 (by omega)]
  have : a2.toList.drop (n + 0 + c2.length) = [] := List.drop_eq_nil_of_le (by simp; omega)
  rw [this, List.append_nil, Nat.add_zero]
 unfold Instr.fill Instr.fill Instr.fill
 simp only [Nat.zero_mul, Nat.one_mul, e1]
 rw [if_neg (by simp; omega)]
 rw [← Array.foldl_toList, Array.toList_zipIdx]
 simp only [List.toList_toArray]
 rw [f1, if_neg (by simp; omega), ← Array.foldl_toList, Array.toList_zipIdx]
 simp only [List.toList_toArray]
 rw [f2 _ (by simp; omega)]
 simp
 rw [← h1, List.take_left]
theorem wpList_slice2 {P : Program} {ops : Array Oper} {rest : List Oper} {o : Oper} {a : Act} {w : World} {Q : Exit → Act → World → Prop} {t e : TypeId} {c1 c2 : List Value} {z : Value} {n m : Nat} (hg : o.guard = none) (x y : Operand) (ho : o.op = .buildSlice t 2 #[(0, x), (1, y)]) (hx : a.eval x = .agg c1.toArray) (hy : a.eval y = .agg c2.toArray)
  (ht : P.underlying t = some (.slice e)) (hi : (P.info? e).map (fun i => (i.zero, i.size, i.bytes)) = some (some z, n, m)) (h1 : c1.length = n) (h2 : c2.length = n) (hp : 0 < n) (hsm : n ≤ 2 ^ 20)
  (h : wpList P ops Q rest (a.put o.dst (.slice (some ⟨w.heap.size, 0, none⟩) 2 2)) (w.alloc (.cells (c1 ++ c2).toArray e))) : wpList P ops Q (o :: rest) a w := by
 refine wpList_of_run (wanted_none hg _) (v := .slice (some ⟨w.heap.size, 0, none⟩) 2 2) (w' := w.alloc (.cells (c1 ++ c2).toArray e)) ?_ h
 unfold execOp
 have h1' : (#[((0 : Nat), x), ((1 : Nat), y)].map fun (i, x) => (i, a.eval x)) = #[(0, .agg c1.toArray), (1, .agg c2.toArray)] := by simp [hx, hy]
 simp only [ho, h1', Sem.run_bind, Sem.run_pure, Result.andThen_ok, run_slice2 ht hi h1 h2 hp hsm]
theorem slBlk {α : Type} {sz b : Nat} {R : World → List Value → α → Prop} {W : World} {t : TypeId} {css : List (List Value)} {xs : List α} (h : W.heap[b]? = some (.cells css.flatten.toArray t (0, 0))) (hl : css.length = xs.length) (hs : ∀ (i : Nat) (cs : List Value), css[i]? = some cs → cs.length = sz) (hR : ∀ (i : Nat) (cs : List Value) (x : α), css[i]? = some cs → xs[i]? = some x → R W cs x) :
  SlRep sz xs.length R W (.slice (some ⟨b, 0, none⟩) xs.length xs.length) xs :=
 ⟨_, _, rfl, Nat.le_refl _, Nat.le_refl _, fun i x hx => by
  have hi : i < css.length := by have := (List.getElem?_eq_some_iff.1 hx).1; omega
  refine ⟨b, 0, css[i], rfl, hs i _ (List.getElem?_eq_getElem hi), fun j c hj => ?_, hR i _ x (List.getElem?_eq_getElem hi) hx⟩
  have := flatten_at hs i j _ c (List.getElem?_eq_getElem hi) hj
  rw [Nat.zero_add]
  exact cell_at h _ c (by simpa using this)⟩
theorem ltZ_rlt (W : World) (k : Int) (p : ByteArray) (hk : (Lit.int .i8 k).wf = true) (hp : p.size ≤ 140737488351232) : RLt W (ltZs k p) (ltZ k p) := (ltZ_c W k p hk hp).rlt
theorem lits2 {W : World} {b : Nat} {t : TypeId} {k1 k2 : Int} {p1 p2 : ByteArray} (h : W.heap[b]? = some (.cells (ltZs k1 p1 ++ ltZs k2 p2).toArray t (0, 0))) (a1 : (Lit.int .i8 k1).wf = true) (a2 : (Lit.int .i8 k2).wf = true) (b1 : p1.size ≤ 140737488351232) (b2 : p2.size ≤ 140737488351232) :
  SlRep 16 651562446089 RLt W (.slice (some ⟨b, 0, none⟩) 2 2) [ltZ k1 p1, ltZ k2 p2] :=
 (slBlk (css := [ltZs k1 p1, ltZs k2 p2]) (xs := [ltZ k1 p1, ltZ k2 p2]) (by simpa using h) rfl (fun i cs hi => by
  match i, hi with
  | 0, hi => injection hi with hi; subst hi; rfl
  | 1, hi => injection hi with hi; subst hi; rfl) (fun i cs x hi hx => by
  match i, hi, hx with
  | 0, hi, hx => injection hi with hi; injection hx with hx; subst hi; subst hx; exact ltZ_rlt W _ _ a1 b1
  | 1, hi, hx => injection hi with hi; injection hx with hx; subst hi; subst hx; exact ltZ_rlt W _ _ a2 b2)).more (by show (2 : Nat) ≤ _; decide)
theorem lits1 {W : World} {b : Nat} {t : TypeId} {k1 : Int} {p1 : ByteArray} (h : W.heap[b]? = some (.cells (ltZs k1 p1).toArray t (0, 0))) (a1 : (Lit.int .i8 k1).wf = true) (b1 : p1.size ≤ 140737488351232) :
  SlRep 16 651562446089 RLt W (.slice (some ⟨b, 0, none⟩) 1 1) [ltZ k1 p1] :=
 (slBlk (css := [ltZs k1 p1]) (xs := [ltZ k1 p1]) (by simpa using h) rfl (fun i cs hi => by
  match i, hi with
  | 0, hi => injection hi with hi; subst hi; rfl) (fun i cs x hi hx => by
  match i, hi, hx with
  | 0, hi, hx => injection hi with hi; injection hx with hx; subst hi; subst hx; exact ltZ_rlt W _ _ a1 b1)).more (by show (1 : Nat) ≤ _; decide)
theorem rules2 {W : World} {b g1 g2 : Nat} {t : TypeId} (h : W.heap[b]? = some (.cells #[.string zB, .slice none 0 0, .slice (some ⟨g1, 0, none⟩) 2 2, .string yB, .slice none 0 0, .slice (some ⟨g2, 0, none⟩) 1 1] t (0, 0))) (h1 : SlRep 16 651562446089 RLt W (.slice (some ⟨g1, 0, none⟩) 2 2) ruZ.b) (h2 : SlRep 16 651562446089 RLt W (.slice (some ⟨g2, 0, none⟩) 1 1) ruY.b) :
  SlRep 3 2199023255552 RRu W (.slice (some ⟨b, 0, none⟩) 2 2) otherP :=
 (slBlk (css := [[.string zB, .slice none 0 0, .slice (some ⟨g1, 0, none⟩) 2 2], [.string yB, .slice none 0 0, .slice (some ⟨g2, 0, none⟩) 1 1]]) (xs := otherP) (by simpa using h) rfl (fun i cs hi => by
  match i, hi with
  | 0, hi => injection hi with hi; subst hi; rfl
  | 1, hi => injection hi with hi; subst hi; rfl) (fun i cs x hi hx => by
  match i, hi, hx with
  | 0, hi, hx => injection hi with hi; injection hx with hx; subst hi; subst hx; exact ⟨_, _, rfl, by decide, SlRep.nil, h1⟩
  | 1, hi, hx => injection hi with hi; injection hx with hx; subst hi; subst hx; exact ⟨_, _, rfl, by decide, SlRep.nil, h2⟩)).more (by decide)
theorem infoPg : (Tryz.prog.info? 31).map (·.size) = some 1 := by kernel_rfl
set_option maxHeartbeats 4000000 in
set_option maxRecDepth 100000 in
theorem other_own (w : World) : Calls Tryz.prog 15 #[] w fun e w' => ∃ A, e = .returned (.agg #[.slice A 2 2]) ∧ (∀ W', Only (fun k => k < w.heap.size) w' W' → SlRep 3 2199023255552 RRu W' (.slice A 2 2) otherP) ∧ Fut w w' ∧ ∀ a, A = some a → w.heap.size ≤ a.block := by
 have hc := fun (k : Int) (p : ByteArray) W => lawAtom_any k p W
 go_enter Tryz.func15, Tryz.ntmps15
 go_wp2_with fail
 refine (hc 2 yB _).mono ?_
 rintro e w1 ⟨rfl, f1⟩
 go_wp2_with fail
 refine (hc 1 zB _).mono ?_
 rintro e w2 ⟨rfl, f2⟩
 go_wp2_with (first | (refine wpList_slice2 (c1 := ltZs 2 yB) (c2 := ltZs 1 zB) rfl _ _ rfl rfl rfl Tryz.underlying78 infoLtF rfl rfl (by decide) (by decide) ?_))
 refine (hc 1 xB _).mono ?_
 rintro e w3 ⟨rfl, f3⟩
 have f12 := Fut.alloc w2 (.cells (ltZs 2 yB ++ ltZs 1 zB).toArray 119)
 have bl := f3.block (heap_alloc_new w2 (.cells (ltZs 2 yB ++ ltZs 1 zB).toArray 119))
 have f34 := Fut.alloc w3 (.cells (ltZs 1 xB).toArray 119)
 have f45 := Fut.alloc (w3.alloc (.cells (ltZs 1 xB).toArray 119)) (.cells #[.string ⟨#[122]⟩, .slice none 0 0, .slice (some ⟨w2.heap.size, 0, none⟩) 2 2, .string ⟨#[121]⟩, .slice none 0 0, .slice (some ⟨w3.heap.size, 0, none⟩) 1 1] 80)
 have b0 := f45.block (f34.block (f3.block (f12.block (f2.block (f1.block (heap_alloc_new w (.cells #[.slice none 0 0] 31)))))))
 have b1 := f45.block (f34.block bl)
 have b2 := f45.block (heap_alloc_new w3 (.cells (ltZs 1 xB).toArray 119))
 have b3 := heap_alloc_new (w3.alloc (.cells (ltZs 1 xB).toArray 119)) (.cells #[.string ⟨#[122]⟩, .slice none 0 0, .slice (some ⟨w2.heap.size, 0, none⟩) 2 2, .string ⟨#[121]⟩, .slice none 0 0, .slice (some ⟨w3.heap.size, 0, none⟩) 1 1] 80)
 have z4 : (w3.alloc (.cells (ltZs 1 xB).toArray 119)).heap.size = w3.heap.size + 1 := by simp
 rw [z4] at b3
 have k0 := cell_at b0 0 (.slice none 0 0) rfl
 have k1 := free_at b0 0
 have F0 := Lib.hid (((((Fut.alloc w (.cells #[.slice none 0 0] 31)).trans f1).trans f2).trans f12).trans ((f3.trans f34).trans f45))
 have n2 : w.heap.size < w2.heap.size := by
  have h9 := (f1.trans f2).size
  rw [show (w.alloc (.cells #[.slice none 0 0] 31)).heap.size = w.heap.size + 1 from by simp] at h9
  omega
 have n3 : w.heap.size < w3.heap.size := by
  have h9 := (f12.trans f3).size
  omega
 have HB := Lib.hid (And.intro b0 (And.intro b1 (And.intro b2 b3)))
 have HN := Lib.hid (And.intro n2 n3)
 clear bl b0 b1 b2 b3 f12 f34 f45 f1 f2 f3 z4 n2 n3
 go_wp2_with (first | (refine wpList_slice1 (cs := ltZs 1 xB) rfl _ rfl rfl Tryz.underlying78 infoLtF rfl rfl (by decide) (by decide) ?_))
 obtain ⟨b0, b1, b2, b3⟩ := HB.out
 obtain ⟨n2, n3⟩ := HN.out
 obtain ⟨w5, hw5⟩ : ∃ W, ((w3.alloc (.cells (ltZs 1 xB).toArray 119)).alloc (.cells #[.string ⟨#[122]⟩, .slice none 0 0, .slice (some ⟨w2.heap.size, 0, none⟩) 2 2, .string ⟨#[121]⟩, .slice none 0 0, .slice (some ⟨w3.heap.size, 0, none⟩) 1 1] 80)).setCell ⟨w.heap.size, 0, none⟩ (.slice (some ⟨w3.heap.size + 1, 0, none⟩) 2 2) = W := ⟨_, rfl⟩
 have O2 : Only (fun k => k = w.heap.size) ((w3.alloc (.cells (ltZs 1 xB).toArray 119)).alloc (.cells #[.string ⟨#[122]⟩, .slice none 0 0, .slice (some ⟨w2.heap.size, 0, none⟩) 2 2, .string ⟨#[121]⟩, .slice none 0 0, .slice (some ⟨w3.heap.size, 0, none⟩) 1 1] 80)) w5 := by rw [← hw5]; exact Only.set _ _ rfl
 have hb := set_block (j := 0) (v := .slice (some ⟨w3.heap.size + 1, 0, none⟩) 2 2) b0
 rw [hw5] at hb
 rw [hw5]
 have LR := fun W' (hO : Only (fun k => k < w.heap.size) w5 W') => rules2 (hO.keeps (O2.keeps b3 (by omega)) (by omega)) (lits2 (hO.keeps (O2.keeps b1 (by omega)) (by omega)) (by decide) (by decide) (by decide) (by decide)) (lits1 (hO.keeps (O2.keeps b2 (by omega)) (by omega)) (by decide) (by decide))
 have OW : Only (fun k => w.heap.size ≤ k) w w5 := (Only.fut F0.out).trans (O2.mono fun k _ hk => by omega)
 refine bodyPost_ret (v := .agg #[.slice (some ⟨w3.heap.size + 1, 0, none⟩) 2 2]) (results_cell_row rfl _ _ w.heap.size _ #[.slice (some ⟨w3.heap.size + 1, 0, none⟩) 2 2] _ _ rfl hb Tryz.underlying31 rfl infoPg) rfl ?_
 exact ⟨_, rfl, LR, OW.toFut (fun k hk => hk), fun a ha => by injection ha with ha; subst ha; show w.heap.size ≤ w3.heap.size + 1; omega⟩
theorem other_any (w : World) : Calls Tryz.prog 15 #[] w fun e w' => ∃ A, e = .returned (.agg #[.slice A 2 2]) ∧ SlRep 3 2199023255552 RRu w' (.slice A 2 2) otherP ∧ Fut w w' := by
 refine (other_own w).mono ?_
 rintro e w' ⟨A, h1, h2, h3, _⟩
 exact ⟨A, h1, h2 w' (Only.refl _), h3⟩
theorem TwTm.rd {B M : Nat} {w0 w : World} {v0 v : Value} {xs : List Tm} (h0 : SlRep 4 M RTm w0 v0 xs) (h : TwTm B w v xs) (hs : xs.length ≤ 100000000) : SlRep 4 2932031007402 RTm w v xs :=
 TwinE.rep h (fun g cs x hx hc => by
  obtain ⟨cs0, _, hok⟩ := sl_mem h0 x hx
  exact ⟨hc, hok⟩) (by omega)
theorem TwAr.rd {B M : Nat} {w0 w : World} {v0 v : Value} {xs : List Ar} (h0 : SlRep 5 M RAr w0 v0 xs) (h : TwAr B w v xs) (hs : xs.length ≤ 100000000) : SlRep 5 2513169434916 RAr w v xs :=
 TwinE.rep h (fun g cs x hx hc => by
  obtain ⟨cs0, _, hok⟩ := sl_mem h0 x hx
  exact ⟨hc, hok⟩) (by omega)
theorem TwEx.re : ∀ (m : Nat) {n g : Nat} {w0 w : World} {cs0 cs : List Value} {x : Ex}, RE n w0 cs0 x → TwEx m g w cs x → x.size ≤ 100000000 → RE m w cs x
 | 0, _, _, _, _, _, _, _, _, h, _ => h.elim
 | m + 1, 0, _, _, _, _, _, _, h, _, _ => h.elim
 | m + 1, n + 1, g, w0, w, cs0, cs, .mk op t kids, h0, h, hs => by
  obtain ⟨kv0, _, hw, hok, hk0⟩ := h0
  obtain ⟨kv, h1, h2⟩ := h
  have hsz : Ex.sizes kids < 100000000 := by
   unfold Ex.size at hs
   omega
  refine ⟨kv, h1, hw, hok, TwinE.rep h2 (fun g cs x hx hc => ?_) ?_⟩
  ·obtain ⟨cs1, h3⟩ := sl_mem hk0 x hx
   exact TwEx.re m h3 hc (by have := size_kid hx; omega)
  ·have := len_sizes kids
   omega
theorem TwLt.rlt {g : Nat} {w0 w : World} {cs0 cs : List Value} {x : Lt} (h0 : RLt w0 cs0 x) (h : TwLt g w cs x) (hs : x.fits) : RLt w cs x := by
 obtain ⟨_, _, _, _, _, _, a1, a2, a3, a4, ⟨n1, a5⟩, ⟨n2, a6⟩⟩ := h0
 obtain ⟨av, cl, cd, m1, m2, e, b1, b2, b3⟩ := h
 obtain ⟨s1, s2, s3⟩ := hs
 have r2 := TwEx.re m1 a5 b2 s2
 have r3 := TwEx.re m2 a6 b3 s3
 have l2 : cl.length = 6 := by obtain ⟨_, _, _, ks1, A1, c1, _, _, rfl, _, _, _⟩ := ex_form r2; rfl
 have l3 : cd.length = 6 := by obtain ⟨_, _, _, ks1, A1, c1, _, _, rfl, _, _, _⟩ := ex_form r3; rfl
 exact ⟨av, cl, cd, e, l2, l3, a1, a2, a3, TwTm.rd a4 b1 s1, ⟨m1, r2⟩, ⟨m2, r3⟩⟩
theorem TwRu.rru {g : Nat} {w0 w : World} {cs0 cs : List Value} {x : Ru} (h0 : RRu w0 cs0 x) (h : TwRu g w cs x) (hs : x.fits) : RRu w cs x := by
 obtain ⟨_, _, _, a1, a2, a3⟩ := h0
 obtain ⟨hv, bv, e, b1, b2⟩ := h
 obtain ⟨s1, s2, s3⟩ := hs
 refine ⟨hv, bv, e, a1, TwAr.rd a2 b1 s1, TwinE.rep b2 (fun g cs x hx hc => ?_) (by omega)⟩
 obtain ⟨cs1, h3⟩ := sl_mem a3 x hx
 exact TwLt.rlt h3 hc (s3 x hx)
def RKu (g : Nat) (w : World) (cs : List Value) (x : Ru) : Prop := ∀ w', Only (fun k => k = g) w w' → RRu w' cs x
theorem RKu.only {g : Nat} {w w' : World} {cs : List Value} {x : Ru} (h : RKu g w cs x) (hO : Only (fun k => k = g) w w') : RKu g w' cs x := fun w2 h2 => h w2 (hO.trans h2)
theorem RKu.now {g : Nat} {w : World} {cs : List Value} {x : Ru} (h : RKu g w cs x) : RRu w cs x := h w (Only.refl _)
def SlU (g : Nat) (w : World) (v : Value) (xs : List Ru) : Prop :=
 v = .slice (some ⟨g, 0, none⟩) xs.length (xs.length + 1) ∧ xs.length ≤ 100000000 ∧ ∃ arr, w.heap[g]? = some (.cells arr 80 (0, 0)) ∧ (xs.length + 1) * 3 ≤ arr.size ∧ ∀ (i : Nat) (x : Ru), xs[i]? = some x → ∃ cs : List Value, cs.length = 3 ∧ (∀ (j : Nat) (c : Value), cs[j]? = some c → arr[i * 3 + j]? = some c) ∧ RKu g w cs x
theorem SlU.fut {g : Nat} {w w' : World} {v : Value} {xs : List Ru} (h : SlU g w v xs) (hf : Fut w w') : SlU g w' v xs := by
 obtain ⟨h1, h2, arr, h3, h4, h5⟩ := h
 exact ⟨h1, h2, arr, hf.block h3, h4, fun i x hx => by
  obtain ⟨cs, a, b, c⟩ := h5 i x hx
  exact ⟨cs, a, b, c.only (Only.fut hf)⟩⟩
theorem SlU.rep {g : Nat} {w : World} {v : Value} {xs : List Ru} (h : SlU g w v xs) : SlRep 3 100000001 RRu w v xs := by
 obtain ⟨rfl, h2, arr, h3, h4, h5⟩ := h
 refine ⟨_, _, rfl, Nat.le_succ _, by omega, fun i x hx => ?_⟩
 obtain ⟨cs, a, b, c⟩ := h5 i x hx
 refine ⟨g, 0, cs, rfl, a, fun j v hj => ?_, c.now⟩
 rw [Nat.zero_add]
 exact cell_at h3 _ v (b j v hj)
theorem TwRus.slU {B M : Nat} {w0 w : World} {v0 v : Value} {xs : List Ru} (h0 : SlRep 3 M RRu w0 v0 xs) (h : TwRus B w v xs) (hn : xs.length ≤ 100000000) (hs : ∀ x ∈ xs, x.fits) : ∃ g, B ≤ g ∧ SlU g w v xs := by
 obtain ⟨g, css, h1, rfl, h3, h4, h5, h6⟩ := h
 obtain ⟨arr, b1, b2, b3⟩ := h4
 refine ⟨g, h1, rfl, hn, arr, b1, by omega, fun i x hx => ?_⟩
 have hil : i < xs.length := (List.getElem?_eq_some_iff.1 hx).1
 have hc : css[i]? = some (css[i]'(by omega)) := List.getElem?_eq_getElem (by omega)
 obtain ⟨hl, hre⟩ := h5 i x _ hx hc
 refine ⟨_, hl, fun j c hj => ?_, fun w' hO => ?_⟩
 ·have hjl : j < 3 := by rw [← hl]; exact (List.getElem?_eq_some_iff.1 hj).1
  have hlt : i * 3 + j < (xs.length + 1) * 3 := by omega
  have h9 := b3 (i * 3 + j) hlt
  rw [cellsAt_get hc hj hjl] at h9
  have h8 : i * 3 + j < arr.size := by omega
  rw [Array.getElem?_eq_getElem h8, ← h9]
  simp [Array.getD, h8]
 ·obtain ⟨cs0, h9⟩ := sl_mem h0 x (List.mem_of_getElem? hx)
  exact TwRu.rru h9 (hre.only hO fun k hk e => by omega) (hs x (List.mem_of_getElem? hx))
theorem SlU.put {g : Nat} {w : World} {v : Value} {xs : List Ru} (h : SlU g w v xs) (i : Nat) (hi : i < xs.length) (cs : List Value) (z : Ru) (hl : cs.length = 3) (hz : RKu g w cs z) :
  w.there g (i * 3) 3 ∧ SlU g (w.setCells g (i * 3) cs) v (xs.set i z) ∧ Only (fun k => k = g) w (w.setCells g (i * 3) cs) := by
 obtain ⟨rfl, h2, arr, h3, h4, h5⟩ := h
 obtain ⟨arr', e1, e2, e3⟩ := setCells_put cs (i * 3) w arr h3
 have hO : Only (fun k => k = g) w (w.setCells g (i * 3) cs) := by rw [e1]; exact Only.put g _ rfl
 refine ⟨fun j hj => ⟨?_, ?_⟩, ⟨by rw [List.length_set], by rw [List.length_set]; exact h2, arr', ?_, by rw [List.length_set, e2]; exact h4, fun m x hx => ?_⟩, hO⟩
 ·simp [World.cell?, h3]; omega
 ·simp [World.frozen?, h3]
 ·rw [e1]
  have := (Array.getElem?_eq_some_iff.1 h3).1
  simp [World.putObj, this]
 ·rw [List.getElem?_set] at hx
  by_cases hm : i = m
  ·subst hm
   rw [if_pos rfl, if_pos hi] at hx
   obtain rfl := Option.some.inj hx
   refine ⟨cs, hl, fun j c hj => ?_, hz.only hO⟩
   have hj3 : j < 3 := by rw [← hl]; exact (List.getElem?_eq_some_iff.1 hj).1
   rw [e3, if_pos ⟨by omega, by omega, by omega⟩]
   have : i * 3 + j - i * 3 = j := by omega
   rw [this]
   exact hj
  ·rw [if_neg hm] at hx
   obtain ⟨cs2, a, b, c⟩ := h5 m x hx
   refine ⟨cs2, a, fun j c' hj => ?_, c.only hO⟩
   have hj3 : j < 3 := by rw [← a]; exact (List.getElem?_eq_some_iff.1 hj).1
   have hml : m < xs.length := (List.getElem?_eq_some_iff.1 hx).1
   have hne : ¬ (i * 3 ≤ m * 3 + j ∧ m * 3 + j < i * 3 + cs.length ∧ m * 3 + j < arr.size) := by omega
   rw [e3, if_neg hne]
   exact b j c' hj
end Go.Proofs.YtdjffkkbjbiihaaGreatDoor
namespace Go.Proofs.YtdjffkkbjbiihaaGreatDoor
open Go.RowKit
section
variable {α : Type}
def TurnK (xs ys : List α) (i : Nat) : Prop := ys.length = xs.length ∧ ∀ j, j < xs.length → ys[j]? = if j < i ∨ xs.length - i ≤ j then xs[xs.length - 1 - j]? else xs[j]?
theorem TurnK.start (xs : List α) : TurnK xs xs 0 := ⟨rfl, fun j hj => by rw [if_neg (by omega)]⟩
theorem TurnK.step {xs ys : List α} {i : Nat} (h : TurnK xs ys i) (hi : i < xs.length / 2) {a b : α} (ha : ys[i]? = some a) (hb : ys[xs.length - 1 - i]? = some b) : TurnK xs ((ys.set i b).set (xs.length - 1 - i) a) (i + 1) := by
 obtain ⟨hl, hg⟩ := h
 refine ⟨by rw [List.length_set, List.length_set, hl], fun j hj => ?_⟩
 rw [List.getElem?_set, List.length_set, hl]
 have e1 := hg i (by omega)
 rw [if_neg (by omega)] at e1
 have e2 := hg (xs.length - 1 - i) (by omega)
 rw [if_neg (by omega)] at e2
 by_cases h1 : xs.length - 1 - i = j
 ·subst h1
  rw [if_pos rfl, if_pos (by omega), if_pos (.inr (by omega))]
  have : xs.length - 1 - (xs.length - 1 - i) = i := by omega
  rw [this, ← e1, ha]
 ·rw [if_neg h1, List.getElem?_set, hl]
  by_cases h2 : i = j
  ·subst h2
   rw [if_pos rfl, if_pos (by omega), if_pos (.inl (by omega)), ← e2, hb]
  ·rw [if_neg h2, hg j hj]
   by_cases h3 : j < i ∨ xs.length - i ≤ j
   ·rw [if_pos h3, if_pos (by omega)]
   ·rw [if_neg h3, if_neg (by omega)]
theorem TurnK.done {xs ys : List α} (h : TurnK xs ys (xs.length / 2)) : ys = xs.reverse := by
 obtain ⟨hl, hg⟩ := h
 refine List.ext_getElem? fun j => ?_
 by_cases hj : j < xs.length
 ·rw [hg j hj, List.getElem?_reverse hj]
  by_cases h3 : j < xs.length / 2 ∨ xs.length - xs.length / 2 ≤ j
  ·rw [if_pos h3]
  ·rw [if_neg h3]
   congr 1
   omega
 ·rw [List.getElem?_eq_none (by omega), List.getElem?_eq_none (by rw [List.length_reverse]; omega)]
theorem TurnK.mem {xs ys : List α} {i : Nat} (h : TurnK xs ys i) {x : α} (hx : x ∈ ys) : x ∈ xs := by
 obtain ⟨j, hj⟩ := List.getElem?_of_mem hx
 have hl := (List.getElem?_eq_some_iff.1 hj).1
 rw [h.1] at hl
 rw [h.2 j hl] at hj
 split at hj
 ·exact List.mem_of_getElem? hj
 ·exact List.mem_of_getElem? hj
end
end Go.Proofs.YtdjffkkbjbiihaaGreatDoor
namespace Go.Proofs.YtdjffkkbjbiihaaGreatDoor
open Go.RowKit Go.WideMaps Go.Maps
section
variable {α : Type} {sz B M : Nat} {e : TypeId} {R : World → List Value → α → Prop} {w0 w : World} {v : Value} {xs : List α}
abbrev Fix (R : World → List Value → α → Prop) (w0 : World) : World → List Value → α → Prop := fun _ cs x => R w0 cs x
theorem Fix.keeps (R : World → List Value → α → Prop) (w0 : World) (e : TypeId) : Keeps e (Fix R w0) := fun _ _ _ _ _ h _ _ => h
end
theorem Ru.one {w : World} {cs : List Value} {x : Ru} (h : RRu w cs x) : ∀ u ∈ cs, u.oneCell' = true := by
 obtain ⟨hv, bv, rfl, _, a2, a3⟩ := h
 obtain ⟨_, _, rfl, _⟩ := a2.form
 obtain ⟨_, _, rfl, _⟩ := a3.form
 intro u hu
 simp only [List.mem_cons, List.not_mem_nil, or_false] at hu
 rcases hu with rfl | rfl | rfl <;> rfl
theorem parts_rev (rs : List Ru) : (rs.reverse.map Ru.parts).sum = (rs.map Ru.parts).sum := by
 rw [List.map_reverse, List.sum_reverse]
theorem small_rev {rs : List Ru} (h : (rs.map Ru.parts).sum ≤ 1048576) : Small rs.reverse := by
 unfold Small
 rw [parts_rev]
 omega
theorem small_two {rs : List Ru} (h : (rs.map Ru.parts).sum ≤ 1048576) : Small (rs ++ rs.reverse) := by
 unfold Small
 rw [List.map_append, List.sum_append, parts_rev]
 omega
theorem mem_rev {rs : List Ru} (r : Ru) : r ∈ rs ↔ r ∈ rs.reverse := List.mem_reverse.symm
theorem SlU.swap {g : Nat} {w : World} {v : Value} {ys : List Ru} (h : SlU g w v ys) {i k : Nat} (hi : i < ys.length) (hk : k < ys.length) :
  ∃ ci ck : List Value, ci.length = 3 ∧ ck.length = 3 ∧ (∀ (j : Nat) (c : Value), ci[j]? = some c → w.cell? ⟨g, i * 3 + j, none⟩ = some c) ∧ (∀ (j : Nat) (c : Value), ck[j]? = some c → w.cell? ⟨g, k * 3 + j, none⟩ = some c) ∧ w.there g (i * 3) 3 ∧ (w.setCells g (i * 3) ck).there g (k * 3) 3 ∧
   SlU g ((w.setCells g (i * 3) ck).setCells g (k * 3) ci) v ((ys.set i ys[k]).set k ys[i]) ∧ Only (fun b => b = g) w ((w.setCells g (i * 3) ck).setCells g (k * 3) ci) ∧ (∀ v ∈ ci, v.oneCell' = true) ∧ ∀ v ∈ ck, v.oneCell' = true := by
 have h0 := h
 obtain ⟨_, _, arr, h3, _, h5⟩ := h0
 obtain ⟨ci, a1, a2, a3⟩ := h5 i ys[i] (List.getElem?_eq_getElem hi)
 obtain ⟨ck, b1, b2, b3⟩ := h5 k ys[k] (List.getElem?_eq_getElem hk)
 obtain ⟨p1, p2, p3⟩ := h.put i hi ck ys[k] b1 b3
 obtain ⟨q1, q2, q3⟩ := p2.put k (by rw [List.length_set]; exact hk) ci ys[i] a1 (a3.only p3)
 exact ⟨ci, ck, a1, b1, fun j c hj => cell_at h3 _ c (a2 j c hj), fun j c hj => cell_at h3 _ c (b2 j c hj), p1, q1, q2, p3.trans q3, Ru.one a3.now, Ru.one b3.now⟩
end Go.Proofs.YtdjffkkbjbiihaaGreatDoor
namespace Go.Proofs.YtdjffkkbjbiihaaGreatDoor.On
open Go.RowKit
def jB (jm : Nat) (js : Tmp) (ops : Array Oper) (n : Nat) : Bool :=
 decide (jm < n) && (match ops[jm]? with | none => false | some o => decide (js ∈ o.looksAt ops)) && (List.range n).all fun k => dstAt ops k != some js || decide (k < jm)
theorem jB_spec {jm : Nat} {js : Tmp} {ops : Array Oper} {n : Nat} (h : jB jm js ops n = true) : jm < n ∧ (∀ o, ops[jm]? = some o → js ∈ o.looksAt ops) ∧ ∀ k, k < n → dstAt ops k = some js → k < jm := by
 simp only [jB, Bool.and_eq_true, decide_eq_true_eq, List.all_eq_true, List.mem_range] at h
 obtain ⟨⟨h1, h2⟩, h3⟩ := h
 refine ⟨h1, fun o ho => ?_, fun k hk hd => ?_⟩
 ·rw [ho] at h2
  simpa using h2
 ·have := h3 k hk
  simpa [hd] using this
class Mut where
 H : Nat → World → World → Prop
 A : Nat → World → World → Prop
 G : World → World → Prop
 D : Nat → Nat → Bool
 afut : ∀ {i : Nat} {a b : World}, Fut a b → A i a b
 hfut : ∀ {i : Nat} {a b : World}, Fut a b → H i a b
 htrans : ∀ {i : Nat} {a b c : World}, H i a b → H i b c → H i a c
 gfut : ∀ {a b : World}, Fut a b → G a b
 gtrans : ∀ {a b c : World}, G a b → G b c → G a c
 jm : Nat
 js : Tmp
 J : Value → World → Prop
 jkeep : ∀ {x : Value} {a b : World}, A jm a b → J x a → J x b
variable [Mut]
def G (w w' : World) : Prop := Mut.G w w'
theorem G.refl (w : World) : G w w := Mut.gfut (Fut.refl w)
theorem G.trans {a b c : World} (h : G a b) (k : G b c) : G a c := Mut.gtrans h k
def Eff (i : Nat) (w w' : World) : Prop := ((∀ j, j ≠ i → Mut.D i j = false → Mut.H j w w') ∧ ∀ j, j ≠ i → Mut.D j i = false → Mut.A j w w') ∧ G w w'
theorem Eff.of_fut {i : Nat} {w w' : World} (h : Fut w w') : Eff i w w' := ⟨⟨fun _ _ _ => Mut.hfut h, fun _ _ _ => Mut.afut h⟩, Mut.gfut h⟩
def EffJ (i : Nat) (x : Value) (w w' : World) : Prop := Eff i w w' ∧ (i = Mut.jm → Mut.J x w')
theorem Eff.refl (i : Nat) (w : World) : Eff i w w := Eff.of_fut (Fut.refl w)
def NoJ (i : Nat) : Prop := i ≠ Mut.jm ∨ ∀ x w, Mut.J x w
theorem Eff.j {i : Nat} {x : Value} {w w' : World} (h : Eff i w w') (hj : NoJ i) : EffJ i x w w' := ⟨h, fun e => hj.elim (fun n => absurd e n) fun k => k x w'⟩
def Mono (i : Nat) : Sp → Prop
 | .det _ => True
 | .rel S => ∀ v w w', Mut.A i w w' → S v w → S v w'
theorem holds_mono {i : Nat} {s : Sp} (h : Mono i s) {v : Value} {w w' : World} (hf : Mut.A i w w') (hs : s.holds v w) : s.holds v w' := by
 cases s with
 | det c => exact hs
 | rel S => exact h v w w' hf hs
def givesUpon (i : Nat) (x : Value) (P : Program) (s : Sp) (w : World) : Result Next → Prop
 | .ok (.value v) w' => EffJ i x w w' ∧ s.holds v w'
 | .ok .skip w' => EffJ i x w w' ∧ s.holds undef w'
 | .ok (.enter f args) w' => Calls P f args w' (fun e w'' => ∃ v, e = .returned v ∧ EffJ i x w w'' ∧ s.holds v w'')
 | _ => False
def gives (i : Nat) (P : Program) (o : Oper) (a : Act) (s : Sp) (w : World) : Prop := givesUpon i (a.tmps.getD Mut.js undef) P s w ((execOp a.eval o).run P w)
def givesG (i : Nat) (P : Program) (ops : Array Oper) (o : Oper) (a : Act) (s : Sp) (w : World) : Prop :=
 if Region.wanted o (yielded ops a.tmps) = true then gives i P o a s w else EffJ i (a.tmps.getD Mut.js undef) w w ∧ s.holds undef w
def Obl (P : Program) (ops : Array Oper) (w0 : World) (a0 : Act) (K : Act → World → Prop) : List Oper → List (Option Tmp × Sp) → Prop
 | [], acc => ∀ w, G w0 w → lexFin w (fun a => Mut.J (a.tmps.getD Mut.js undef) w → K a w) acc a0
 | o :: r, acc => ∃ s : Sp, Mono acc.length s ∧ (∀ w, Mut.H acc.length w0 w → lexAct o w (fun a => givesG acc.length P ops o a s w) 0 acc a0) ∧ Obl P ops w0 a0 K r (acc ++ [(o.dst, s)])
structure GInv (ops : Array Oper) (n : Nat) (sp : Nat → Sp) (a0 : Act) (w0 : World) (vs : Nat → Value) (listed : Array Bool) (a : Act) (w : World) : Prop where
 size : a.tmps.size = a0.tmps.size
 defers : a.defers = a0.defers
 fut : G w0 w
 free : ∀ t, (∀ k, k < n → listed.getD k false = true → dstAt ops k ≠ some t) → a.tmps[t]? = a0.tmps[t]?
 held : ∀ k, k < n → listed.getD k false = true → (sp k).holds (vs k) w
 slot : ∀ k d, k < n → listed.getD k false = true → dstAt ops k = some d → a.tmps[d]? = some (vs k)
 lsize : listed.size = ops.size
 closed : ∀ j oj, ops[j]? = some oj → listed.getD j false = true → ∀ e ∈ oj.after, Region.binds .any e = true → listed.getD e.on false = true
 tail : ∀ t, n ≤ t → t < ops.size → listed.getD t true = false
 hist : ∀ i, listed.getD i false = false → Mut.H i w0 w
 jj : listed.getD Mut.jm false = true → Mut.J (a.tmps.getD Mut.js undef) w
theorem Obl_split {P : Program} {ops : Array Oper} {w0 : World} {a0 : Act} {K : Act → World → Prop} : ∀ (l : List Oper) (acc : List (Option Tmp × Sp)), Obl P ops w0 a0 K l acc →
  ∃ full : List (Option Tmp × Sp), full.length = acc.length + l.length ∧ full.take acc.length = acc ∧
   (∀ j o, l[j]? = some o → ∃ s, full[acc.length + j]? = some (o.dst, s) ∧ Mono (acc.length + j) s ∧ ∀ w, Mut.H (acc.length + j) w0 w → lexAct o w (fun a => givesG (acc.length + j) P ops o a s w) 0 (full.take (acc.length + j)) a0) ∧
   (∀ w, G w0 w → lexFin w (fun a => Mut.J (a.tmps.getD Mut.js undef) w → K a w) full a0)
 | [], acc, h => ⟨acc, by simp, by simp, fun j o hj => by simp at hj, h⟩
 | o :: r, acc, h => by
  obtain ⟨s, hm, h1, h2⟩ := h
  obtain ⟨full, hl, ht, hall, hfin⟩ := Obl_split r _ h2
  have hlen : (acc ++ [(o.dst, s)]).length = acc.length + 1 := by simp
  rw [hlen] at hl ht hall
  have ht' : full.take acc.length = acc := by
   have := congrArg (List.take acc.length) ht
   simpa [List.take_take, Nat.min_eq_left (Nat.le_succ _)] using this
  refine ⟨full, by simp only [List.length_cons]; omega, ht', fun j o' hj => ?_, hfin⟩
  cases j with
  | zero =>
   simp only [List.getElem?_cons_zero, Option.some.injEq] at hj
   subst hj
   refine ⟨s, ?_, hm, fun w hw => by rw [Nat.add_zero] at hw ⊢; rw [ht']; exact h1 w hw⟩
   have := congrArg (fun x => x[acc.length]?) ht
   simpa [List.getElem?_take] using this
  | succ j =>
   have := hall j o' (by simpa using hj)
   rwa [show acc.length + 1 + j = acc.length + (j + 1) by omega] at this
section
variable {P : Program} {ops : Array Oper} {n : Nat} {sp : Nat → Sp} {a0 : Act} {w0 : World} {vs : Nat → Value} {listed : Array Bool} {a : Act} {w : World}
theorem GInv.step {full : List (Option Tmp × Sp)} {i : Nat} {Q : Exit → Act → World → Prop} {K : Act → World → Prop} (inv : GInv ops n sp a0 w0 vs listed a w) (hB : graphB ops n = true)
  (hbd : ∀ k d, dstAt ops k = some d → k < n → d < a0.tmps.size) (hjB : jB Mut.jm Mut.js ops n = true ∨ ∀ x w, Mut.J x w) (hDB : ∀ i j o, ops[i]? = some o → Mut.D i j = true → dep o j = true)
  (hsp : ∀ k, k < n → full[k]? = some (dstAt ops k, sp k)) (_hfl : full.length = n) (hmono : ∀ k, k < n → Mono k (sp k))
  (hob : ∀ o, ops[i]? = some o → ∀ w, Mut.H i w0 w → lexAct o w (fun a => givesG i P ops o a (sp i) w) 0 (full.take i) a0)
  (hi : i ∈ Region.ready .any ops listed) (hin : i < n)
  (hK : ∀ v a' w', GInv ops n sp a0 w0 (fun k => if k = i then v else vs k) (listed.setIfInBounds i true) a' w' → K a' w') : wpOp P ops Q i K a w := by
 obtain ⟨hsel, hns, hg⟩ := graphB_spec hB
 obtain ⟨hun, o, ho, hall⟩ := mem_ready.1 hi
 obtain ⟨o', ho', hedge, hdist, hlook⟩ := hg i hin
 obtain rfl : o = o' := Option.some.inj (ho.symm.trans ho')
 have hunf : listed.getD i false = false := getD_both hun
 have hdep : ∀ k, dep o k = true → listed.getD k false = true := fun k hk => by
  obtain ⟨e, he, hb, rfl⟩ := dep_spec hk
  exact hall e he hb
 have hlex := lexAct_inst vs _ 0 a0 (hob o ho w (inv.hist i hunf)) fun j d S hj hd => by
  rw [Nat.zero_add] at hd ⊢
  rw [List.getElem?_take] at hj
  split at hj
  ·rename_i hji
   have h1 := hsp j (by omega)
   rw [hj] at h1
   simp only [Option.some.injEq, Prod.mk.injEq] at h1
   have := inv.held j (by omega) (hdep j hd)
   rw [← h1.2] at this
   exact this
  ·cases hj
 have hslot : ∀ t ∈ o.looksAt ops, a.tmps[t]? = (putAll vs 0 (full.take i) a0).tmps[t]? := fun t ht => by
  by_cases hex : ∃ k, k < i ∧ dstAt ops k = some t
  ·obtain ⟨k, hki, hkd⟩ := hex
   have hkn : k < n := by omega
   have hkl := hdep k ((hlook t ht k hkn hkd).1 hki)
   have h1 : (full.take i)[k]? = some (some t, sp k) := by rw [List.getElem?_take, if_pos hki, hsp k hkn, hkd]
   rw [inv.slot k t hkn hkl hkd, putAll_at vs t _ 0 a0 k (sp k) (hbd k t hkd hkn) h1, Nat.zero_add]
   ·have h2 := inv.held k hkn hkl
    cases hs : sp k with
    | det c => rw [hs] at h2; simp only [Sp.holds] at h2; rw [h2]; rfl
    | rel S => rfl
   ·intro j d s' hj hd
    rw [List.getElem?_take] at hj
    split at hj
    ·rename_i hji
     rw [hsp j (by omega)] at hj
     simp only [Option.some.injEq, Prod.mk.injEq] at hj
     have hjd : dstAt ops j = some t := hj.1.trans hd
     rcases Nat.lt_trichotomy j k with h' | h' | h'
     ·obtain ⟨ok, hok, _, hd2, _⟩ := hg k hkn
      exact absurd hjd (hd2 t (by simpa [dstAt, hok] using hkd) j h')
     ·exact h'
     ·obtain ⟨oj, hoj, _, hd2, _⟩ := hg j (by omega)
      exact absurd hkd (hd2 t (by simpa [dstAt, hoj] using hjd) k h')
    ·cases hj
  ·rw [putAll_other]
   ·refine inv.free t fun k hkn hkl hkd => ?_
    rcases Nat.lt_trichotomy k i with h' | h' | h'
    ·exact hex ⟨k, h', hkd⟩
    ·subst h'; rw [hunf] at hkl; cases hkl
    ·obtain ⟨ok, hok, hdk⟩ := (hlook t ht k hkn hkd).2 h'
     obtain ⟨e, he, hb, hei⟩ := dep_spec hdk
     have := inv.closed k ok hok hkl e he hb
     rw [hei, hunf] at this
     cases this
   ·intro d s hm hd
    obtain ⟨j, hj⟩ := List.getElem?_of_mem hm
    rw [List.getElem?_take] at hj
    split at hj
    ·rename_i hji
     rw [hsp j (by omega)] at hj
     simp only [Option.some.injEq, Prod.mk.injEq] at hj
     exact hex ⟨j, hji, hj.1.trans hd⟩
    ·cases hj
 have hexec : execOp a.eval o = execOp (putAll vs 0 (full.take i) a0).eval o := execOp_congr o (fun cs b => Region.noSelect_spec hsel i o cs b ho) fun x hx => by
  cases x with
  | tmp t =>
   have := hslot t (List.mem_append_left _ (List.mem_filterMap.2 ⟨.tmp t, by simpa using hx, rfl⟩))
   simp only [Act.eval, Array.getD_eq_getD_getElem?, this]
  | _ => rfl
 have hwant : Region.wanted o (yielded ops a.tmps) = Region.wanted o (yielded ops (putAll vs 0 (full.take i) a0).tmps) := by
  unfold Region.wanted
  cases hgd : o.guard with
  | none => rfl
  | some gw =>
   obtain ⟨g, want⟩ := gw
   have hy : yielded ops a.tmps g = yielded ops (putAll vs 0 (full.take i) a0).tmps g := by
    unfold yielded
    cases ht : (ops[g]?).bind (·.dst) with
    | none => rfl
    | some t =>
     have := hslot t (by simp [Oper.looksAt, hgd, ht])
     simp only [Option.bind_some, this]
   simp only [hy]
 have hdi : dstAt ops i = o.dst := by simp [dstAt, ho]
 have hnW : ∀ k, listed.getD k false = true → Mut.D k i = false := fun k hl => by
  cases hd : Mut.D k i with
  | false => rfl
  | true =>
   have hks : k < ops.size := by
    rw [← inv.lsize]
    rcases Nat.lt_or_ge k listed.size with h' | h'
    ·exact h'
    ·rw [Array.getD_eq_getD_getElem?, Array.getElem?_eq_none h'] at hl; cases hl
   obtain ⟨e, he, hb, hei⟩ := dep_spec (hDB k i _ (Array.getElem?_eq_getElem hks) hd)
   have := inv.closed k _ (Array.getElem?_eq_getElem hks) hl e he hb
   rw [hei, hunf] at this
   cases this
 have hnew : ∀ v w', EffJ i ((putAll vs 0 (full.take i) a0).tmps.getD Mut.js undef) w w' → (sp i).holds v w' → GInv ops n sp a0 w0 (fun k => if k = i then v else vs k) (listed.setIfInBounds i true) (a.put o.dst v) w' := fun v w' hf hv => by
  have hil : i < listed.size := by rw [inv.lsize]; omega
  have hset : ∀ k, k ≠ i → (listed.setIfInBounds i true).getD k false = listed.getD k false := fun k hk => getD_set_ne false (Ne.symm hk)
  refine ⟨by rw [put_size]; exact inv.size, by rw [put_defers']; exact inv.defers, inv.fut.trans hf.1.2, fun t ht => ?_, fun k hk hl => ?_, fun k d hk hl hd => ?_, by simp [inv.lsize], fun j oj hj hl e he hb => ?_, fun t ht ht' => by rw [getD_set_ne true (by omega)]; exact inv.tail t ht ht', fun j hj => ?_, fun hj => ?_⟩
  ·have hit : o.dst ≠ some t := by rw [← hdi]; exact ht i hin (by simp [hil])
   rw [put_other _ _ _ _ hit]
   refine inv.free t fun k hk hl => ht k hk ?_
   by_cases hki : k = i
   ·subst hki; simp [hil]
   ·rw [hset k hki]; exact hl
  ·by_cases hki : k = i
   ·subst hki; simpa using hv
   ·simp only [hki, if_false]
    rw [hset k hki] at hl
    exact holds_mono (hmono k hk) (hf.1.1.2 k hki (hnW k hl)) (inv.held k hk hl)
  ·by_cases hki : k = i
   ·subst hki
    have hod : o.dst = some d := by rw [← hdi]; exact hd
    rw [hod]
    show _ = some (if k = k then v else vs k)
    rw [if_pos rfl]
    exact put_same _ _ _ (by rw [inv.size]; exact hbd k d hd hk)
   ·simp only [hki, if_false]
    rw [hset k hki] at hl
    rw [put_other]
    ·exact inv.slot k d hk hl hd
    ·intro hod
     have hid : dstAt ops i = some d := hdi.trans hod
     rcases Nat.lt_or_ge k i with h' | h'
     ·exact hdist d hod k h' hd
     ·obtain ⟨ok, hok, _, hd2, _⟩ := hg k hk
      exact hd2 d (by simpa [dstAt, hok] using hd) i (by omega) hid
  ·by_cases hij : i = j
   ·subst hij
    have : oj = o := Option.some.inj (hj.symm.trans ho)
    subst this
    exact getD_set_true (hall e he hb)
   ·rw [getD_set_ne false hij] at hl
    exact getD_set_true (inv.closed j oj hj hl e he hb)
  ·have hji : j ≠ i := fun e => by subst e; simp [hil] at hj
   rw [hset j hji] at hj
   exact Mut.htrans (inv.hist j hj) (hf.1.1.1 j hji (by
    cases hd : Mut.D i j with
    | false => rfl
    | true => have := hdep j (hDB i j o ho hd); rw [hj] at this; cases this))
  ·rcases hjB with hjB | hjB
   ·obtain ⟨j1, j2, j3⟩ := jB_spec hjB
    by_cases hji : i = Mut.jm
    ·have hjs : o.dst ≠ some Mut.js := fun e => by have := j3 i hin (hdi.trans e); omega
     have hsl := hslot Mut.js (j2 o (by rw [← hji]; exact ho))
     have h7 := hf.2 hji
     rw [Array.getD_eq_getD_getElem?] at h7 ⊢
     rw [put_other _ _ _ _ hjs, hsl]
     exact h7
    ·rw [hset _ (Ne.symm hji)] at hj
     have hjs : o.dst ≠ some Mut.js := fun e => by
      have hlt := j3 i hin (hdi.trans e)
      obtain ⟨oj, hoj, _, _, hl5⟩ := hg Mut.jm j1
      obtain ⟨e', he', hb', hei⟩ := dep_spec ((hl5 Mut.js (j2 oj hoj) i hin (hdi.trans e)).1 hlt)
      have := inv.closed Mut.jm oj hoj hj e' he' hb'
      rw [hei, hunf] at this
      cases this
     have h7 := inv.jj hj
     rw [Array.getD_eq_getD_getElem?] at h7 ⊢
     rw [put_other _ _ _ _ hjs]
     exact Mut.jkeep (hf.1.1.2 _ (Ne.symm hji) (hnW _ hj)) h7
   ·exact hjB _ _
 unfold wpOp
 simp only [ho]
 unfold givesG at hlex
 rw [← hwant] at hlex
 split
 ·rename_i hw
  rw [if_pos hw] at hlex
  refine .inl ?_
  unfold gives at hlex
  rw [← hexec] at hlex
  unfold Oper.wp
  generalize (execOp a.eval o).run P w = r at hlex ⊢
  cases r with
  | ok nx w' =>
   cases nx <;> simp only [givesUpon] at hlex <;> simp only [Oper.upon]
   case value u => exact hK u _ _ (hnew u w' hlex.1 hlex.2)
   case skip => exact hK undef _ _ (hnew undef w' hlex.1 hlex.2)
   case enter f args =>
    refine Calls.mono hlex fun e w'' he => ?_
    obtain ⟨v, rfl, hf, hv⟩ := he
    exact hK v _ _ (hnew v w'' hf hv)
  | halt x w' => simp only [givesUpon] at hlex
 ·rename_i hw
  rw [if_neg hw] at hlex
  exact hK undef _ _ (hnew undef w hlex.1 hlex.2)
end
theorem wp_region_graph {P : Program} {id : Nat} {Q : Exit → Act → World → Prop} {a0 : Act} {w : World} {l : List Oper} (n : Nat) (hm : P.follows .mixedOrders = true)
  (hB : (graphB l.toArray n && tailB l.toArray n) = true) (hsz : ((List.range n).all fun k => match dstAt l.toArray k with | some d => decide (d < a0.tmps.size) | none => true) = true) (hjB : jB Mut.jm Mut.js l.toArray n = true ∨ ∀ x w, Mut.J x w) (hDB : ∀ i j o, l.toArray[i]? = some o → Mut.D i j = true → dep o j = true)
  (h : Obl P l.toArray w.drew a0 (wpList P l.toArray Q (l.drop n)) (l.take n) []) : (Code.region id l.toArray true).wp P Q a0 w := by
 simp only [Bool.and_eq_true, tailB] at hB
 obtain ⟨hG, hS, hseq⟩ := hB
 obtain ⟨hsel, hns, hg⟩ := graphB_spec hG
 have hnl : n ≤ l.length := by simpa using hns
 have hbd : ∀ k d, dstAt l.toArray k = some d → k < n → d < a0.tmps.size := fun k d hd hk => by
  have := List.all_eq_true.1 hsz k (List.mem_range.2 hk)
  simpa [hd] using this
 obtain ⟨full, hfl, _, hob, hfin⟩ := Obl_split _ _ h
 simp only [List.length_nil, Nat.zero_add] at hfl hob
 have htl : (l.take n).length = n := by simp; omega
 rw [htl] at hfl
 -- the specifications
 obtain ⟨sp, hsp⟩ : ∃ sp : Nat → Sp, ∀ k, sp k = ((full[k]?).map (·.2)).getD (.det undef) := ⟨_, fun _ => rfl⟩
 have hfull : ∀ k, k < n → ∃ o, l[k]? = some o ∧ full[k]? = some (dstAt l.toArray k, sp k) ∧ Mono k (sp k) ∧
   ∀ w', Mut.H k w.drew w' → lexAct o w' (fun a => givesG k P l.toArray o a (sp k) w') 0 (full.take k) a0 := fun k hk => by
  have hlk : l[k]? = some (l[k]'(by omega)) := List.getElem?_eq_getElem (by omega)
  obtain ⟨s, hs, hmono, hlex⟩ := hob k _ (by rw [List.getElem?_take, if_pos hk]; exact hlk)
  have hspk : sp k = s := by rw [hsp, hs]; rfl
  refine ⟨_, hlk, ?_, by rw [hspk]; exact hmono, by rw [hspk]; exact hlex⟩
  rw [hs, hspk]
  simp [dstAt, hlk]
 refine wp_region_any hm ?_
 have main : ∀ (f : Nat) (listed : Array Bool) (a : Act) (w' : World) (vs : Nat → Value), GInv l.toArray n sp a0 w.drew vs listed a w' → unl listed n = f →
   wpAny P .any l.toArray Q (f + (l.length - n)) listed a w' := by
  intro f
  induction f with
  | zero =>
   intro listed a w' vs inv hf
   rw [Nat.zero_add]
   have hlisted : listed = headDone n l.length := by
    refine Array.ext_getElem? fun t => ?_
    by_cases ht : t < l.length
    ·have hts : t < listed.size := by rw [inv.lsize]; simpa using ht
     have h2 : (headDone n l.length)[t]? = some (decide (t < n)) := by simp [headDone, ht]
     rw [h2, Array.getElem?_eq_getElem hts]
     by_cases htn : t < n
     ·have := unl_zero n hf t htn
      simp [hts] at this
      simp [htn, this]
     ·have := inv.tail t (by omega) (by simpa using ht)
      simp [hts] at this
      simp [htn, this]
    ·rw [Array.getElem?_eq_none (by rw [inv.lsize]; simp; omega), Array.getElem?_eq_none (by simp [headDone]; omega)]
   have hlast := lexFin_inst (K := fun a => Mut.J (a.tmps.getD Mut.js undef) w' → wpList P l.toArray Q (l.drop n) a w') vs full 0 a0 (hfin w' inv.fut) fun j d S hj => by
    rw [Nat.zero_add]
    have hjn : j < n := by rw [← hfl]; exact (List.getElem?_eq_some_iff.1 hj).1
    obtain ⟨_, _, h1, _, _⟩ := hfull j hjn
    rw [hj] at h1
    simp only [Option.some.injEq, Prod.mk.injEq] at h1
    have := inv.held j hjn (unl_zero n hf j hjn)
    rw [← h1.2] at this
    exact this
   have hact : a = putAll vs 0 full a0 := by
    refine act_ext (fun t => ?_) ?_
    ·by_cases hex : ∃ k, k < n ∧ dstAt l.toArray k = some t
     ·obtain ⟨k, hk, hkd⟩ := hex
      obtain ⟨_, _, h1, _, _⟩ := hfull k hk
      rw [hkd] at h1
      rw [inv.slot k t hk (unl_zero n hf k hk) hkd, putAll_at vs t full 0 a0 k (sp k) (hbd k t hkd hk) h1, Nat.zero_add]
      ·have h2 := inv.held k hk (unl_zero n hf k hk)
       cases hs : sp k with
       | det c => rw [hs] at h2; simp only [Sp.holds] at h2; rw [h2]; rfl
       | rel S => rfl
      ·intro j d s' hj hd
       have hjn : j < n := by rw [← hfl]; exact (List.getElem?_eq_some_iff.1 hj).1
       obtain ⟨_, _, h3, _, _⟩ := hfull j hjn
       rw [hj] at h3
       simp only [Option.some.injEq, Prod.mk.injEq] at h3
       have hjd : dstAt l.toArray j = some t := h3.1.symm.trans hd
       rcases Nat.lt_trichotomy j k with h' | h' | h'
       ·obtain ⟨ok, hok, _, hd2, _⟩ := hg k hk
        exact absurd hjd (hd2 t (by simpa [dstAt, hok] using hkd) j h')
       ·exact h'
       ·obtain ⟨oj, hoj, _, hd2, _⟩ := hg j hjn
        exact absurd hkd (hd2 t (by simpa [dstAt, hoj] using hjd) k h')
     ·rw [inv.free t fun k hk _ hd => hex ⟨k, hk, hd⟩, putAll_other]
      intro d s hmem hd
      obtain ⟨j, hj⟩ := List.getElem?_of_mem hmem
      have hjn : j < n := by rw [← hfl]; exact (List.getElem?_eq_some_iff.1 hj).1
      obtain ⟨_, _, h3, _, _⟩ := hfull j hjn
      rw [hj] at h3
      simp only [Option.some.injEq, Prod.mk.injEq] at h3
      exact hex ⟨j, hjn, h3.1.symm.trans hd⟩
    ·rw [inv.defers]
     have : ∀ (acc : List (Option Tmp × Sp)) (k : Nat) (b : Act), (putAll vs k acc b).defers = b.defers := by
      intro acc
      induction acc with
      | nil => intro k b; rfl
      | cons x r ih =>
       intro k b
       obtain ⟨d, s⟩ := x
       cases s <;> simp only [putAll] <;> rw [ih, put_defers']
     rw [this]
   rw [← hact] at hlast
   replace hlast := hlast (hjB.elim (fun h => inv.jj (unl_zero n hf _ (jB_spec h).1)) fun h => h _ _)
   have := wpAny_of_seq (md := .any) (P := P) (Q' := Q) (l.drop n) n listed a w' (fun j => by simp [List.getElem?_drop])
    (by rw [hlisted, List.length_drop]; simpa using hseq) hlast
   rwa [List.length_drop] at this
  | succ f ih =>
   intro listed a w' vs inv hf
   obtain ⟨i0, hi0, hi1, hi2⟩ := unl_some n (by rw [hf]; omega)
   have hils : ∀ i, i < n → i < listed.size := fun i hi => by rw [inv.lsize]; simp; omega
   have hready : i0 ∈ Region.ready .any l.toArray listed := by
    obtain ⟨o, ho, hedge, _⟩ := hg i0 hi0
    exact mem_ready.2 ⟨getD_in (hils i0 hi0) hi1, o, ho, fun e he hb => hi2 _ (hedge e he hb)⟩
   rw [show f + 1 + (l.length - n) = (f + (l.length - n)) + 1 by omega]
   refine ⟨fun h0 => (by rw [h0] at hready; cases hready), fun i hi => ?_⟩
   have hin : i < n := by
    rcases Nat.lt_or_ge i n with h' | h'
    ·exact h'
    ·exfalso
     have hisz : i < l.toArray.size := by
      obtain ⟨_, o, ho, _⟩ := mem_ready.1 hi
      exact (Array.getElem?_eq_some_iff.1 ho).1
     simp only [sinkB, Bool.or_eq_true, decide_eq_true_eq, Bool.and_eq_true] at hS
     rcases hS with hS | ⟨hs, hc⟩
     ·omega
     ·exact tail_waits hs hc (by omega) ⟨inv.lsize, inv.closed, inv.tail⟩ _ i0 rfl hi0 (getD_in (hils i0 hi0) hi1) i h' hi
   refine inv.step (full := full) (Q := Q) hG hbd hjB hDB (fun k hk => (by obtain ⟨_, _, h1, _, _⟩ := hfull k hk; exact h1)) hfl (fun k hk => (by obtain ⟨_, _, _, h1, _⟩ := hfull k hk; exact h1))
    (fun o ho => (by
     obtain ⟨o', ho', _, _, h1⟩ := hfull i hin
     have : o = o' := Option.some.inj ((by simpa using ho.symm : some o = l[i]?).trans ho')
     subst this
     exact h1)) hi hin fun v a' w'' inv' => ih _ a' w'' _ inv' ?_
   have hun := getD_both (mem_ready.1 hi).1
   have := unl_set hun (hils i hin) n hin
   omega
 have := main n (Array.replicate l.toArray.size false) a0 w.drew (fun _ => undef)
  ⟨rfl, rfl, G.refl _, fun _ _ => rfl, fun k _ hl => (by rw [getD_replicate_false] at hl; cases hl), fun k _ _ hl => (by rw [getD_replicate_false] at hl; cases hl), by simp,
   fun j oj _ hl => (by rw [getD_replicate_false] at hl; cases hl), fun t _ ht => getD_in (by simpa using ht) (getD_replicate_false _ _), fun i _ => Mut.hfut (Fut.refl _), fun hl => (by rw [getD_replicate_false] at hl; cases hl)⟩ (unl_none _ _)
 rwa [show n + (l.length - n) = l.toArray.size by simp; omega] at this
def Run (P : Program) (ops : Array Oper) (w0 : World) (K : Act → World → Prop) : Nat → List Oper → List Sp → Act → List (Nat × (World → Prop)) → Prop
 | _, [], _, a, known => ∀ w, G w0 w → AllFacts known w → Mut.J (a.tmps.getD Mut.js undef) w → K a w
 | i, o :: r, .det c :: sps, a, known => (∀ w, Mut.H i w0 w → Facts known o w → givesG i P ops o a (.det c) w) ∧ Run P ops w0 K (i + 1) r sps (a.put o.dst c) known
 | i, o :: r, .rel S :: sps, a, known => (∀ v w w', Mut.A i w w' → S v w → S v w') ∧ (∀ w, Mut.H i w0 w → Facts known o w → givesG i P ops o a (.rel S) w) ∧
   ∀ v, Run P ops w0 K (i + 1) r sps (a.put o.dst v) (known ++ [(i, S v)])
 | _, _ :: _, [], _, _ => False
theorem Obl_of_run {P : Program} {ops : Array Oper} {w0 : World} {a0 : Act} {K : Act → World → Prop} : ∀ (l : List Oper) (sps : List Sp) (acc : List (Option Tmp × Sp)),
  (∀ v : Nat → Value, Run P ops w0 K acc.length l sps (putAll v 0 acc a0) (knownOf v 0 acc)) → Obl P ops w0 a0 K l acc
 | [], sps, acc, h => fun w hw => lexFin_intro acc 0 a0 fun v hv => by
  have := h v
  simp only [Run] at this
  exact this w hw (allFacts_of acc 0 hv)
 | o :: r, [], acc, h => by have := h (fun _ => undef); simp only [Run] at this
 | o :: r, .det c :: sps, acc, h => by
  refine ⟨.det c, trivial, fun w hw => lexAct_intro acc 0 a0 fun v hv => ?_, Obl_of_run r sps _ fun v => ?_⟩
  ·have := h v
   simp only [Run] at this
   exact this.1 w hw (facts_of acc 0 hv)
  ·have := (h v)
   simp only [Run] at this
   have h2 := this.2
   rw [putAll_append, knownOf_append, List.length_append]
   simpa [putAll, knownOf] using h2
 | o :: r, .rel S :: sps, acc, h => by
  refine ⟨.rel S, ?_, fun w hw => lexAct_intro acc 0 a0 fun v hv => ?_, Obl_of_run r sps _ fun v => ?_⟩
  ·have := h (fun _ => undef)
   simp only [Run] at this
   exact this.1
  ·have := h v
   simp only [Run] at this
   exact this.2.1 w hw (facts_of acc 0 hv)
  ·have := h v
   simp only [Run] at this
   have h2 := this.2.2 (v acc.length)
   rw [putAll_append, knownOf_append, List.length_append]
   simpa [putAll, knownOf] using h2
theorem wp_graph {P : Program} {id : Nat} {Q : Exit → Act → World → Prop} {a0 : Act} {w : World} {l : List Oper} (n : Nat) (shape : List Sh) (hm : P.follows .mixedOrders = true)
  (hB : (graphB l.toArray n && tailB l.toArray n) = true) (hsz : ((List.range n).all fun k => match dstAt l.toArray k with | some d => decide (d < a0.tmps.size) | none => true) = true) (hjB : jB Mut.jm Mut.js l.toArray n = true ∨ ∀ x w, Mut.J x w) (hDB : ∀ i j o, l.toArray[i]? = some o → Mut.D i j = true → dep o j = true)
  (h : Exs (fun sps => Run P l.toArray w.drew (wpList P l.toArray Q (l.drop n)) 0 (l.take n) sps a0 []) shape) : (Code.region id l.toArray true).wp P Q a0 w := by
 obtain ⟨sps, hs⟩ := Exs_some shape h
 exact wp_region_graph n hm hB hsz hjB hDB (Obl_of_run _ sps [] fun _ => hs)
section
variable {P : Program} {ops : Array Oper} {w0 : World} {K : Act → World → Prop} {i : Nat} {o : Oper} {r : List Oper} {sps : List Sp} {a : Act} {known : List (Nat × (World → Prop))}
theorem Run.val {c : Value} (hj : NoJ i) (hg : o.guard = none) (h : ∀ w, Mut.H i w0 w → Facts known o w → (execOp a.eval o).run P w = .ok (.value c) w) (k : Run P ops w0 K (i + 1) r sps (a.put o.dst c) known) :
  Run P ops w0 K i (o :: r) (.det c :: sps) a known := by
 refine ⟨fun w hw hf => ?_, k⟩
 unfold givesG
 rw [if_pos (wanted_none hg _)]
 unfold gives
 rw [h w hw hf]
 exact ⟨(Eff.refl i w).j hj, rfl⟩
theorem Run.valG {c : Value} (hj : NoJ i) (hg : Region.wanted o (yielded ops a.tmps) = true) (h : ∀ w, Mut.H i w0 w → Facts known o w → (execOp a.eval o).run P w = .ok (.value c) w) (k : Run P ops w0 K (i + 1) r sps (a.put o.dst c) known) :
  Run P ops w0 K i (o :: r) (.det c :: sps) a known := by
 refine ⟨fun w hw hf => ?_, k⟩
 unfold givesG
 rw [if_pos hg]
 unfold gives
 rw [h w hw hf]
 exact ⟨(Eff.refl i w).j hj, rfl⟩
theorem Run.skip (hj : NoJ i) (hg : Region.wanted o (yielded ops a.tmps) = false) (k : Run P ops w0 K (i + 1) r sps (a.put o.dst undef) known) :
  Run P ops w0 K i (o :: r) (.det undef :: sps) a known := by
 refine ⟨fun w hw hf => ?_, k⟩
 unfold givesG
 rw [if_neg (by rw [hg]; exact Bool.false_ne_true)]
 exact ⟨(Eff.refl i w).j hj, rfl⟩
theorem Run.call {c : Value} {f : FuncId} {args : Array Value} (hj : NoJ i) (hg : Region.wanted o (yielded ops a.tmps) = true) (h : ∀ w, Mut.H i w0 w → (execOp a.eval o).run P w = .ok (.enter f args) w)
  (hc : ∀ w, Mut.H i w0 w → Facts known o w → Calls P f args w fun e w' => e = .returned c ∧ Fut w w') (k : Run P ops w0 K (i + 1) r sps (a.put o.dst c) known) :
  Run P ops w0 K i (o :: r) (.det c :: sps) a known := by
 refine ⟨fun w hw hf => ?_, k⟩
 unfold givesG
 rw [if_pos hg]
 unfold gives
 rw [h w hw]
 exact (hc w hw hf).mono fun e w' ⟨he, hf'⟩ => ⟨c, he, (Eff.of_fut hf').j hj, rfl⟩
theorem Run.callR {S : Value → World → Prop} {f : FuncId} {args : Array Value} (hj : NoJ i) (hg : Region.wanted o (yielded ops a.tmps) = true) (hm : ∀ v w w', Mut.A i w w' → S v w → S v w') (h : ∀ w, Mut.H i w0 w → (execOp a.eval o).run P w = .ok (.enter f args) w)
  (hc : ∀ w, Mut.H i w0 w → Facts known o w → Calls P f args w fun e w' => ∃ v, e = .returned v ∧ Fut w w' ∧ S v w') (k : ∀ v, Run P ops w0 K (i + 1) r sps (a.put o.dst v) (known ++ [(i, S v)])) :
  Run P ops w0 K i (o :: r) (.rel S :: sps) a known := by
 refine ⟨hm, fun w hw hf => ?_, k⟩
 unfold givesG
 rw [if_pos hg]
 unfold gives
 rw [h w hw]
 exact (hc w hw hf).mono fun e w' ⟨v, he, hf', hs⟩ => ⟨v, he, (Eff.of_fut hf').j hj, hs⟩
theorem Run.valR {S : Value → World → Prop} (hj : NoJ i) (hg : Region.wanted o (yielded ops a.tmps) = true) (hm : ∀ v w w', Mut.A i w w' → S v w → S v w')
  (h : ∀ w, Mut.H i w0 w → Facts known o w → ∃ v w', (execOp a.eval o).run P w = .ok (.value v) w' ∧ Fut w w' ∧ S v w') (k : ∀ v, Run P ops w0 K (i + 1) r sps (a.put o.dst v) (known ++ [(i, S v)])) :
  Run P ops w0 K i (o :: r) (.rel S :: sps) a known := by
 refine ⟨hm, fun w hw hf => ?_, k⟩
 unfold givesG
 rw [if_pos hg]
 unfold gives
 obtain ⟨v, w', he, h1, h2⟩ := h w hw hf
 rw [he]
 exact ⟨(Eff.of_fut h1).j hj, h2⟩
theorem Run.done (h : ∀ w, G w0 w → AllFacts known w → Mut.J (a.tmps.getD Mut.js undef) w → K a w) : Run P ops w0 K i [] sps a known := h
end
end Go.Proofs.YtdjffkkbjbiihaaGreatDoor.On
namespace Go.Proofs.YtdjffkkbjbiihaaGreatDoor.On
abbrev Mut.one (m : Nat) (R : World → World → Prop) (hf : ∀ {a b : World}, Fut a b → R a b) (ht : ∀ {a b c : World}, R a b → R b c → R a c) : Mut where
 H i := if i = m then Fut else R
 A i := if i = m then Fut else R
 G := R
 D _ _ := false
 hfut := fun {i} {a b} h => by
  show (if i = m then Fut else R) a b
  split
  ·exact h
  ·exact hf h
 afut := fun {i} {a b} h => by
  show (if i = m then Fut else R) a b
  split
  ·exact h
  ·exact hf h
 htrans := fun {i} {a b c} h k => by
  show (if i = m then Fut else R) a c
  change (if i = m then Fut else R) a b at h
  change (if i = m then Fut else R) b c at k
  split at h
  ·rename_i e; rw [if_pos e] at k ⊢; exact Fut.trans h k
  ·rename_i e; rw [if_neg e] at k ⊢; exact ht h k
 gfut := hf
 gtrans := ht
 jm := 0
 js := 0
 J _ _ := True
 jkeep _ _ := trivial
theorem Eff.one {m : Nat} {R : World → World → Prop} {hf : ∀ {a b : World}, Fut a b → R a b} {ht : ∀ {a b c : World}, R a b → R b c → R a c} {w w' : World} (h : R w w') : @Eff (Mut.one m R hf ht) m w w' :=
 ⟨⟨fun j hj _ => (by show (if j = m then Fut else R) w w'; rw [if_neg hj]; exact h), fun j hj _ => (by show (if j = m then Fut else R) w w'; rw [if_neg hj]; exact h)⟩, h⟩
section
variable {m : Nat} {R : World → World → Prop} {hf : ∀ {a b : World}, Fut a b → R a b} {ht : ∀ {a b c : World}, R a b → R b c → R a c} {s : Tmp} {K : Value → World → Prop} {hK : ∀ {x : Value} {a b : World}, Fut a b → K x a → K x b} {w w' : World}
end
abbrev Mut.two (m n : Nat) (B C R : World → World → Prop) (hB : ∀ {a b : World}, Fut a b → B a b) (hC : ∀ {a b : World}, Fut a b → C a b) (hf : ∀ {a b : World}, Fut a b → R a b)
  (tB : ∀ {a b c : World}, B a b → B b c → B a c) (ht : ∀ {a b c : World}, R a b → R b c → R a c) : Mut where
 H i := if i = m then Fut else if i = n then B else R
 A i := if i = m then C else if i = n then Fut else R
 G := R
 D i j := i == n && j == m
 hfut := fun {i} {a b} h => by
  show (if i = m then Fut else if i = n then B else R) a b
  split
  ·exact h
  ·split
   ·exact hB h
   ·exact hf h
 afut := fun {i} {a b} h => by
  show (if i = m then C else if i = n then Fut else R) a b
  split
  ·exact hC h
  ·split
   ·exact h
   ·exact hf h
 htrans := fun {i} {a b c} h k => by
  show (if i = m then Fut else if i = n then B else R) a c
  change (if i = m then Fut else if i = n then B else R) a b at h
  change (if i = m then Fut else if i = n then B else R) b c at k
  by_cases e : i = m
  ·rw [if_pos e] at h k ⊢; exact Fut.trans h k
  ·rw [if_neg e] at h k ⊢
   by_cases e2 : i = n
   ·rw [if_pos e2] at h k ⊢; exact tB h k
   ·rw [if_neg e2] at h k ⊢; exact ht h k
 gfut := hf
 gtrans := ht
 jm := 0
 js := 0
 J _ _ := True
 jkeep _ _ := trivial
section
variable {m n : Nat} {B C R : World → World → Prop} {hB : ∀ {a b : World}, Fut a b → B a b} {hC : ∀ {a b : World}, Fut a b → C a b} {hf : ∀ {a b : World}, Fut a b → R a b}
  {tB : ∀ {a b c : World}, B a b → B b c → B a c} {ht : ∀ {a b c : World}, R a b → R b c → R a c} {w w' : World}
end
theorem one_dep {m : Nat} {R : World → World → Prop} {hf : ∀ {a b : World}, Fut a b → R a b} {ht : ∀ {a b c : World}, R a b → R b c → R a c} {ops : Array Oper} : ∀ i j o, ops[i]? = some o → @Mut.D (Mut.one m R hf ht) i j = true → dep o j = true := fun i j o ho hd => by
 have hd' : false = true := hd
 cases hd'
end Go.Proofs.YtdjffkkbjbiihaaGreatDoor.On
