/- Parts. -/
import Derived.Test.YtdjffkkbjbiihaaGreatDoorE05
set_option linter.unusedSimpArgs false
set_option linter.unusedVariables false
namespace Go.Proofs.YtdjffkkbjbiihaaGreatDoor
open Go.RowKit
theorem TwinE.only {α : Type} {sz : Nat} {e : TypeId} {z : List Value} {RE : Nat → World → List Value → α → Prop} {RM : World → List Value → Prop} {B : Nat} {w w' : World} {v : Value} {xs : List α} {S : Nat → Prop}
  (h : TwinE sz e z RE RM B w v xs) (hO : Only S w w') (hS : ∀ k, B ≤ k → ¬ S k) (hE : ∀ g cs x, B ≤ g → RE g w cs x → RE g w' cs x) (hM : ∀ cs, RM w cs → RM w' cs) : TwinE sz e z RE RM B w' v xs := by
 obtain ⟨g, css, h1, h2, h3, h4, h5, h6⟩ := h
 obtain ⟨arr, b1, b2⟩ := h4
 exact ⟨g, css, h1, h2, h3, ⟨arr, hO.keeps b1 (hS g h1), b2⟩, fun i x cs hx hc => ⟨(h5 i x cs hx hc).1, hE _ _ _ (by omega) (h5 i x cs hx hc).2⟩, fun cs hc => ⟨(h6 cs hc).1, hM _ (h6 cs hc).2⟩⟩
theorem TwinE.base {α : Type} {sz : Nat} {e : TypeId} {z : List Value} {RE : Nat → World → List Value → α → Prop} {RM : World → List Value → Prop} {B B' : Nat} {w : World} {v : Value} {xs : List α}
  (h : TwinE sz e z RE RM B w v xs) (hB : B' ≤ B) : TwinE sz e z RE RM B' w v xs := by
 obtain ⟨g, css, h1, h2⟩ := h
 exact ⟨g, css, by omega, h2⟩
theorem block_range {w : World} {b : Nat} {cs : List Value} {t : TypeId} (h : w.heap[b]? = some (.cells cs.toArray t (0, 0))) : w.rangeAt b 0 cs := fun j v hj => by
 rw [Nat.zero_add]
 exact cell_at h j v (by simpa using hj)
def zEx : List Value := [.int .i8 0, .string ⟨#[]⟩, .int .i8 0, .int .i64 0, .string ⟨#[]⟩, .slice none 0 0]
def mkEx : List Value := [.int .i8 99, .string wordS, .int .i8 0, .int .i64 0, .string ⟨#[]⟩, .slice none 0 0]
theorem infoEx6 : (Tryz.prog.info? 117).map (fun i => (i.zero, i.size, i.bytes)) = some (some (.agg zEx.toArray), 6, 80) := by kernel_rfl
theorem infoExN : (Tryz.prog.info? 117).map (·.size) = some 6 := by kernel_rfl
theorem infoExs1 : (Tryz.prog.info? 115).map (·.size) = some 1 := by kernel_rfl
def TwEx : Nat → Nat → World → List Value → Ex → Prop
 | 0, _, _, _, _ => False
 | h + 1, g, w, cs, .mk op t kids => ∃ kv, cs = [.int .i8 op, .string t.v, .int .i8 t.x.k, .int .i64 t.x.n, .string t.x.s, kv] ∧ TwinE 6 117 zEx (TwEx h) (fun _ cs => cs = mkEx) g w kv kids
abbrev TwExs (h : Nat) : Nat → World → Value → List Ex → Prop := TwinE 6 117 zEx (TwEx h) (fun _ cs => cs = mkEx)
theorem TwEx.only {S : Nat → Prop} : ∀ (h : Nat) {g : Nat} {w w' : World} {cs : List Value} {x : Ex}, TwEx h g w cs x → Only S w w' → (∀ k, g ≤ k → ¬ S k) → TwEx h g w' cs x
 | 0, _, _, _, _, _, h, _, _ => h
 | h + 1, g, w, w', cs, .mk op t kids, ⟨kv, h1, h2⟩, hO, hS => ⟨kv, h1, h2.only hO hS (fun g' cs x hg hx => TwEx.only h hx hO fun k hk => hS k (by omega)) fun _ h => h⟩
theorem TwEx.keep {h g : Nat} {w w' : World} {cs : List Value} {x : Ex} (hx : TwEx h g w cs x) (hf : Fut w w') : TwEx h g w' cs x := TwEx.only (S := fun _ => False) h hx (Only.fut hf) fun _ _ h => h
theorem TwEx.base : ∀ (h : Nat) {g g' : Nat} {w : World} {cs : List Value} {x : Ex}, TwEx h g w cs x → g' ≤ g → TwEx h g' w cs x
 | 0, _, _, _, _, _, h, _ => h
 | h + 1, _, _, _, _, .mk _ _ _, ⟨kv, h1, h2⟩, hg => ⟨kv, h1, h2.base hg⟩
theorem TwExs.keep {h B : Nat} {w w' : World} {v : Value} {xs : List Ex} (hx : TwExs h B w v xs) (hf : Fut w w') : TwExs h B w' v xs := TwinE.fut (fun g _ _ _ _ hf hx => TwEx.keep hx hf) (fun _ _ _ _ h => h) hx hf
theorem size_kid : ∀ {l : List Ex} {x : Ex}, x ∈ l → x.size ≤ Ex.sizes l
 | y :: r, x, h => by
  unfold Ex.sizes
  rcases List.mem_cons.1 h with e | h
  ·rw [e]; omega
  ·have := size_kid h; omega
theorem len_sizes : ∀ l : List Ex, l.length ≤ Ex.sizes l
 | [] => Nat.zero_le _
 | y :: r => by
  have h1 := len_sizes r
  have h2 : 1 ≤ y.size := by obtain ⟨_, _, _⟩ := y; unfold Ex.size; omega
  unfold Ex.sizes
  rw [List.length_cons]
  omega
set_option maxHeartbeats 1000000 in
theorem markEx_any (w : World) (hP : Pows w) : Calls Tryz.prog 101 #[.int .i64 777777] w fun e w' => e = .returned (.agg mkEx.toArray) ∧ Fut w w' := by
 have HW := Lib.hid (fun w hP => word_any' w hP)
 have hb0 := Lib.hid (blk_zero w zEx 117 (by decide))
 have f0 := Fut.alloc w (.cells zEx.toArray 117)
 unfold mkEx
 generalize wordS = t at HW ⊢
 go_enter Tryz.func101, Tryz.ntmps101
 go_wp2_with fail
 refine (HW.out _ (hP.fut f0)).mono ?_
 rintro e w1 ⟨rfl, h1⟩
 have hb1 := Lib.hid (hb0.out.fut h1)
 have F1 := Lib.hid (f0.trans h1)
 clear h1 f0
 have hi3 := infoExN
 go_wp2_with (first | (show wpList _ _ _ (Oper.mk _ (Op.store _ _ _) _ _ _ _ :: _) _ _; refine wpList_storeK [.int .i8 99, .string t, .int .i8 0, .int .i64 0, .string ⟨#[]⟩, .slice none 0 0] rfl _ _ _ rfl rfl rfl hb1.out (fun c hc => (by cases hc)) rfl (by decide) rfl (by decide) hi3 (by intro v hv; simp only [List.mem_cons, List.not_mem_nil, or_false] at hv; rcases hv with (rfl|rfl|rfl|rfl|rfl|rfl) <;> rfl) ?_; intro w2 hB2 hO2))
 have hb2 := blk_one hB2 rfl
 have OW : Fut w w2 := ((Only.fut (S := fun k => k = w.heap.size) F1.out).trans hO2).toFut fun k hk => by omega
 refine bodyPost_ret (v := .agg #[.int .i8 99, .string t, .int .i8 0, .int .i64 0, .string ⟨#[]⟩, .slice none 0 0]) (results_cell_row rfl _ _ w.heap.size _ #[.int .i8 99, .string t, .int .i8 0, .int .i64 0, .string ⟨#[]⟩, .slice none 0 0] _ _ rfl hb2 Tryz.underlying117 rfl hi3) rfl ?_
 exact ⟨rfl, OW⟩
def TwExsOk (h : Nat) : Prop := ∀ (xs : List Ex) (A : Option Addr) (c M : Nat) (w : World), Pows w → SlRep 6 M (RE h) w (.slice A xs.length c) xs → Ex.sizes xs ≤ 100000000 →
 Calls Tryz.prog 264 #[.slice A xs.length c] w fun e w' => ∃ v, e = .returned v ∧ TwExs h w.heap.size w' v xs ∧ Fut w w'
set_option maxHeartbeats 2000000 in
theorem twinExpr_of (h : Nat) (IH : TwExsOk h) (x : Ex) (cs : List Value) (w : World) (hP : Pows w) (hx : RE (h + 1) w cs x) (hs : x.size ≤ 100000000) :
  Calls Tryz.prog 246 #[.agg cs.toArray] w fun e w' => ∃ cs', e = .returned (.agg cs'.toArray) ∧ cs'.length = 6 ∧ (∀ v ∈ cs', v.oneCell' = true) ∧ TwEx (h + 1) w.heap.size w' cs' x ∧ Fut w w' := by
 obtain ⟨op, ⟨tv, ⟨xk, xn, xs⟩⟩, ks⟩ := x
 obtain ⟨kv, rfl, _, _, hk⟩ := hx
 obtain ⟨A, c, rfl, _, _⟩ := hk.form
 have hsz : Ex.sizes ks ≤ 100000000 := by unfold Ex.size at hs; omega
 dsimp only at *
 have hbx := heap_alloc_new w (.cells #[.int .i8 op, .string tv, .int .i8 xk, .int .i64 xn, .string xs, .slice A ks.length c] 117)
 have f0 := Fut.alloc w (.cells #[.int .i8 op, .string tv, .int .i8 xk, .int .i64 xn, .string xs, .slice A ks.length c] 117)
 have hs1 : (w.alloc (.cells #[.int .i8 op, .string tv, .int .i8 xk, .int .i64 xn, .string xs, .slice A ks.length c] 117)).heap.size = w.heap.size + 1 := by simp
 have hz := blk_zero (w.alloc (.cells #[.int .i8 op, .string tv, .int .i8 xk, .int .i64 xn, .string xs, .slice A ks.length c] 117)) zEx 117 (by decide)
 have f1 := Fut.alloc (w.alloc (.cells #[.int .i8 op, .string tv, .int .i8 xk, .int .i64 xn, .string xs, .slice A ks.length c] 117)) (.cells zEx.toArray 117)
 rw [hs1] at hz
 have f01 := f0.trans f1
 have hbx1 := f1.block hbx
 have c5 := cell_at hbx1 5 _ rfl
 have HK := Lib.hid (IH ks A c _ _ (hP.fut f01) (hk.fut (RE.stays h) f01) hsz)
 have F01 := Lib.hid f01
 have HBX := Lib.hid hbx1
 have HZ := Lib.hid hz
 clear f0 f1 f01 hbx hbx1 hz hs1 hk IH hP hs hsz
 go_enter Tryz.func246, Tryz.ntmps246
 go_wp2_with fail
 refine HK.out.mono ?_
 rintro e w2 ⟨v, rfl, ht, f2⟩
 obtain ⟨g, hg, rfl, _⟩ := TwinE.mark ht rfl (by decide)
 have hzz : ((w.alloc (.cells #[.int .i8 op, .string tv, .int .i8 xk, .int .i64 xn, .string xs, .slice A ks.length c] 117)).alloc (.cells zEx.toArray 117)).heap.size = w.heap.size + 2 := by simp
 have hb2 := f2.block HBX.out
 have d5 := cell_at hb2 5 _ rfl
 have e5 := free_at hb2 5
 have hz2 := HZ.out.fut f2
 obtain ⟨w3, hw3⟩ : ∃ W, w2.setCell ⟨w.heap.size, 5, none⟩ (.slice (some ⟨g, 0, none⟩) ks.length (ks.length + 1)) = W := ⟨_, rfl⟩
 have hb3 : w3.heap[w.heap.size]? = some (.cells #[.int .i8 op, .string tv, .int .i8 xk, .int .i64 xn, .string xs, .slice (some ⟨g, 0, none⟩) ks.length (ks.length + 1)] 117 (0, 0)) := by rw [← hw3]; simp [World.setCell, Array.getElem?_modify, hb2]
 have hz3 := hz2.far (p := ⟨w.heap.size, 5, none⟩) (by simp) (.slice (some ⟨g, 0, none⟩) ks.length (ks.length + 1))
 have O3 : Only (fun k => k = w.heap.size) w2 w3 := by rw [← hw3]; exact Only.set _ _ rfl
 rw [hw3] at hz3
 have hrg := Lib.hid (block_range hb3)
 have HZ3 := Lib.hid hz3
 have hw3' := Lib.hid hw3
 have HO3 := Lib.hid (And.intro (Only.fut (S := fun k => w.heap.size ≤ k ∧ k < w.heap.size + 2) (F01.out.trans f2)) (O3.mono (S' := fun k => w.heap.size ≤ k ∧ k < w.heap.size + 2) fun k _ e => by omega))
 have HT := Lib.hid (show TwExs h (w.heap.size + 2) w3 (.slice (some ⟨g, 0, none⟩) ks.length (ks.length + 1)) ks from (TwinE.only (S := fun k => k = w.heap.size) (B := w.heap.size + 2) (by rw [← hzz]; exact ht) O3 (fun k hk e => by omega) (fun g cs x hg hx => hx.only h O3 fun k hk e => by omega) fun _ h => h))
 have hi3 := infoExN
 have hi1 := infoExs1
 have hone : ∀ v ∈ ([.int .i8 op, .string tv, .int .i8 xk, .int .i64 xn, .string xs, .slice (some ⟨g, 0, none⟩) ks.length (ks.length + 1)] : List Value), v.oneCell' = true := fun v hv => by
  simp only [List.mem_cons, List.not_mem_nil, or_false] at hv
  rcases hv with (rfl|rfl|rfl|rfl|rfl|rfl) <;> rfl
 clear hw3 hz3 hz2 hb3 hb2 O3 ht f2 hg c5 HK hzz
 go_wp2_with (first | (show wpList _ _ _ (Oper.mk _ (Op.store 115 _ _) _ _ _ _ :: _) _ _; refine wpList_store_1 (wanted_none rfl _) _ _ rfl rfl rfl hi1 rfl d5 e5 hw3'.out ?_) | (show wpList _ _ _ (Oper.mk _ (Op.load 117 _) _ _ _ _ :: _) _ _; refine wpList_load_mid rfl _ _ rfl w.heap.size 0 rfl [.int .i8 op, .string tv, .int .i8 xk, .int .i64 xn, .string xs, .slice (some ⟨g, 0, none⟩) ks.length (ks.length + 1)] _ hrg.out Tryz.underlying117 rfl hi3 ?_) | (show wpList _ _ _ (Oper.mk _ (Op.store 117 _ _) _ _ _ _ :: _) _ _; refine wpList_storeK [.int .i8 op, .string tv, .int .i8 xk, .int .i64 xn, .string xs, .slice (some ⟨g, 0, none⟩) ks.length (ks.length + 1)] rfl _ _ _ rfl rfl rfl HZ3.out (fun c hc => (by cases hc)) rfl (by decide) rfl (by decide) hi3 hone ?_; intro w4 hB4 hO4))
 have hb4 := blk_one hB4 rfl
 have OW : Fut w w4 := ((HO3.out.1.trans HO3.out.2).trans (hO4.mono (S' := fun k => w.heap.size ≤ k ∧ k < w.heap.size + 2) fun k _ e => by omega)).toFut fun k hk => hk.1
 refine bodyPost_ret (v := .agg #[.int .i8 op, .string tv, .int .i8 xk, .int .i64 xn, .string xs, .slice (some ⟨g, 0, none⟩) ks.length (ks.length + 1)]) (results_cell_row rfl _ _ (w.heap.size + 1) _ #[.int .i8 op, .string tv, .int .i8 xk, .int .i64 xn, .string xs, .slice (some ⟨g, 0, none⟩) ks.length (ks.length + 1)] _ _ rfl hb4 Tryz.underlying117 rfl hi3) rfl ?_
 exact ⟨[.int .i8 op, .string tv, .int .i8 xk, .int .i64 xn, .string xs, .slice (some ⟨g, 0, none⟩) ks.length (ks.length + 1)], rfl, rfl, hone, ⟨_, rfl, (TwinE.only (S := fun k => k = w.heap.size + 1) HT.out hO4 (fun k hk e => by omega) (fun g cs x hg hx => hx.only h hO4 fun k hk e => by omega) fun _ h => h).base (by omega)⟩, OW⟩
set_option maxHeartbeats 2000000 in
theorem twinExs_of (h : Nat) (HX : ∀ (x : Ex) (cs : List Value) (w : World), Pows w → RE h w cs x → x.size ≤ 100000000 →
  Calls Tryz.prog 246 #[.agg cs.toArray] w fun e w' => ∃ cs', e = .returned (.agg cs'.toArray) ∧ cs'.length = 6 ∧ (∀ v ∈ cs', v.oneCell' = true) ∧ TwEx h w.heap.size w' cs' x ∧ Fut w w') : TwExsOk h := by
 intro xs A c M w hP hx hs
 have hn : xs.length ≤ 100000000 := Nat.le_trans (len_sizes xs) hs
 obtain ⟨i0, hi0, hz0, hz1, hz2⟩ := info_parts infoEx6
 have hmk : ∀ W : World, (Instr.makeSlice 115 (.int .i64 ((xs.length : Int) + 1)) (.int .i64 ((xs.length : Int) + 1))).run Tryz.prog W =
   .ok (.slice (some ⟨W.heap.size, 0, none⟩) (xs.length + 1) (xs.length + 1)) (W.alloc (.cells (madeCells zEx.toArray ((xs.length + 1) * 6)) 117)) := fun W => by
  have := run_make_rowN (P := Tryz.prog) 115 117 i0 _ Tryz.underlying115 hi0 hz0 .i64 .i64 (xs.length + 1) (xs.length + 1) (Nat.le_refl _) (by rw [hz2]; omega) (by omega) W
  rw [hz1] at this
  exact this
 have HB0 := Lib.hid (blk_madeK w zEx (xs.length + 1) 117 (by decide))
 have F0 := Lib.hid (Fut.alloc w (.cells (madeCells zEx.toArray ((xs.length + 1) * 6)) 117))
 have H := Lib.hid hx
 have HP := Lib.hid hP
 have HXX := Lib.hid HX
 have HS := Lib.hid (fun x (hx : x ∈ xs) => Nat.le_trans (size_kid hx) hs)
 have hxl : xs.length ≤ 9223372036854775807 := by omega
 have hiN := infoExN
 clear hx hP HX hi0 hz0 hz1 hz2 hs
 go_enter Tryz.func264, Tryz.ntmps264
 go_wp2
 go_loopw [4] (fun i wr => ∃ (k : Nat) (css : List (List Value)), k ≤ xs.length ∧ i = .int .i64 k ∧ css.length = k ∧ Hid (∀ c ∈ css, c.length = 6) ∧ Hid (BlkF wr w.heap.size 117 ((xs.length + 1) * 6) (cellsAt css zEx 6)) ∧ Hid (∀ (j : Nat) (x : Ex) (cs : List Value), xs[j]? = some x → css[j]? = some cs → TwEx h (w.heap.size + 1) wr cs x) ∧ Hid (Fut w wr)) (fun i _ => xs.length - (intOf i).toNat)
 case atStart => exact ⟨0, [], Nat.zero_le _, rfl, rfl, Lib.hid (fun c hc => by cases hc), HB0, Lib.hid (fun j x cs _ hc => by simp at hc), F0⟩
 case round =>
  obtain ⟨k, css, hk, rfl, hcl, hall, hB, hE, hF⟩ := hrel
  obtain ⟨wA, rfl⟩ : ∃ x, x = wr := ⟨_, rfl⟩
  have hsz : w.heap.size + 1 ≤ wA.heap.size := hB.out.lt
  by_cases hlt : k < xs.length
  ·have hltI : (k : Int) < xs.length := by omega
   have e0 : (0 : Int) ≤ k ∧ (k : Int) < xs.length := by omega
   have e1 : (0 : Int) ≤ k ∧ (k : Int) < xs.length + 1 := by omega
   obtain ⟨b', off, cs, rfl, hr, hl6, hcs⟩ := sl_row (H.out.fut (RE.stays h) hF.out) hlt
   have hzx := HS.out _ (List.getElem_mem hlt)
   have hxk : xs[k]? = some xs[k] := List.getElem?_eq_getElem hlt
   generalize xs[k] = z at *
   have HC := Lib.hid (HXX.out z cs wA (HP.out.fut hF.out) hr hzx)
   have hcs9 := Lib.hid hcs
   have hxk9 := Lib.hid hxk
   have hi6 : (Tryz.prog.info? 117).map (·.size) = some cs.length := by rw [hl6]; exact hiN
   clear hcs hr hzx hxk
   go_wp2_with (first | (show wpList _ _ _ (Oper.mk _ (Op.load _ _) _ _ _ _ :: _) _ _; refine wpList_load_mid rfl _ _ rfl b' (off + k * 6) rfl cs _ hcs9.out Tryz.underlying117 rfl hi6 ?_))
   refine HC.out.mono ?_
   rintro e w1 ⟨cs', rfl, hl, hone, ht, f1⟩
   have hB1 := Lib.hid (hB.out.fut f1)
   have hF1 := Lib.hid (hF.out.trans f1)
   have hT1 := Lib.hid (TwEx.base h ht hsz)
   have hE1 := Lib.hid (fun j x cs hx hc => (hE.out j x cs hx hc).keep f1)
   clear ht f1 hB hF hE HC
   go_wp2_with (first | (show wpList _ _ _ (Oper.mk _ (Op.store _ _ _) _ _ _ _ :: _) _ _; refine wpList_storeK cs' rfl _ _ _ rfl rfl rfl hB1.out hall.out (by rw [hcl]) (by rw [hcl]; omega) hl (by decide) hiN hone ?_; intro w2 hB2 hO2))
   have HF2 := Lib.hid (((Only.fut (S := fun k => k = w.heap.size) hF1.out).trans hO2).toFut fun k hk => by omega)
   have HE2 := Lib.hid (show ∀ (j : Nat) (x : Ex) (cs : List Value), xs[j]? = some x → (css ++ [cs'])[j]? = some cs → TwEx h (w.heap.size + 1) w2 cs x from fun j x cs hx hc => by
    rcases Nat.lt_or_ge j css.length with hj | hj
    ·rw [List.getElem?_append_left hj] at hc
     exact (hE1.out j x cs hx hc).only h hO2 fun k hk e => by omega
    ·have hj' : j = k := by
      have := (List.getElem?_eq_some_iff.1 hc).1
      simp at this; omega
     subst hj'
     rw [List.getElem?_append_right hj, hcl, Nat.sub_self] at hc
     obtain rfl := Option.some.inj hc
     rw [hxk9.out] at hx
     obtain rfl := Option.some.inj hx
     exact hT1.out.only h hO2 fun k hk e => by omega)
   have HA2 := Lib.hid (show ∀ c ∈ css ++ [cs'], c.length = 6 from fun c hc => by
    rcases List.mem_append.1 hc with q | q
    ·exact hall.out c q
    ·rw [List.mem_singleton] at q; rw [q]; exact hl)
   have HB2 := Lib.hid hB2
   have HL2 := Lib.hid (show (css ++ [cs']).length = k + 1 by rw [List.length_append, hcl]; rfl)
   clear hB2 hO2 hB1 hF1 hT1 hE1 hall
   go_wp2
   go_roundw
   case rel => exact ⟨k + 1, css ++ [cs'], by omega, by go_num, HL2.out, HA2, HB2, HE2, HF2⟩
   case measure => simp [intOf] <;> omega
  ·obtain rfl : k = xs.length := by omega
   have hMk := Lib.hid (markEx_any wA (HP.out.fut hF.out))
   have e1 : (0 : Int) ≤ xs.length ∧ (xs.length : Int) < xs.length + 1 := by omega
   have hone : ∀ v ∈ mkEx, v.oneCell' = true := fun v hv => by
    unfold mkEx at hv
    simp only [List.mem_cons, List.not_mem_nil, or_false] at hv
    rcases hv with (rfl|rfl|rfl|rfl|rfl|rfl) <;> rfl
   go_wp2_with fail
   refine hMk.out.mono ?_
   rintro e w1 ⟨rfl, f1⟩
   have hB1 := Lib.hid (hB.out.fut f1)
   have hF1 := Lib.hid (hF.out.trans f1)
   have hE1 := Lib.hid (fun j x cs hx hc => (hE.out j x cs hx hc).keep f1)
   clear f1 hB hF hMk hE
   go_wp2_with (first | (show wpList _ _ _ (Oper.mk _ (Op.store _ _ _) _ _ _ _ :: _) _ _; refine wpList_storeK mkEx rfl _ _ _ rfl rfl rfl hB1.out hall.out (by rw [hcl]) (by rw [hcl]; omega) rfl (by decide) hiN hone ?_; intro w2 hB2 hO2))
   have HF2 := Lib.hid (((Only.fut (S := fun k => k = w.heap.size) hF1.out).trans hO2).toFut fun k hk => by omega)
   have HB2 := Lib.hid hB2
   have HE2 := Lib.hid (fun j x cs hx hc => (hE1.out j x cs hx hc).only h hO2 fun k hk e => by omega)
   clear hB2 hO2 hB1 hF1 hE1
   go_wp2
   go_ret
   refine ⟨_, rfl, ⟨w.heap.size, css ++ [mkEx], Nat.le_refl _, rfl, by rw [List.length_append, hcl]; rfl, HB2.out, fun i x cs hx hc => ?_, fun cs hc => ?_⟩, HF2.out⟩
   ·have hi : i < xs.length := (List.getElem?_eq_some_iff.1 hx).1
    rw [List.getElem?_append_left (by omega)] at hc
    exact ⟨hall.out _ (List.mem_of_getElem? hc), HE2.out i x cs hx hc⟩
   ·rw [List.getElem?_append_right (by omega), hcl, Nat.sub_self] at hc
    obtain rfl := Option.some.inj hc
    exact ⟨rfl, rfl⟩
theorem twinExs_any : ∀ h, TwExsOk h
 | 0 => twinExs_of 0 fun x cs w _ hx => hx.elim
 | h + 1 => twinExs_of (h + 1) fun x cs w hP hx hs => twinExpr_of h (twinExs_any h) x cs w hP hx hs
theorem twinExpr_any (x : Ex) (cs : List Value) (w : World) (hP : Pows w) (h : Nat) (hx : RE h w cs x) (hs : x.size ≤ 100000000) :
  Calls Tryz.prog 246 #[.agg cs.toArray] w fun e w' => ∃ cs', e = .returned (.agg cs'.toArray) ∧ cs'.length = 6 ∧ (∀ v ∈ cs', v.oneCell' = true) ∧ TwEx h w.heap.size w' cs' x ∧ Fut w w' := by
 cases h with
 | zero => exact hx.elim
 | succ h => exact twinExpr_of h (twinExs_any h) x cs w hP hx hs
set_option maxHeartbeats 1000000 in
theorem isEx_any (w : World) (hP : Pows w) : Calls Tryz.prog 221 #[.agg mkEx.toArray, .int .i64 777777] w fun e w' => e = .returned (.bool true) ∧ Fut w w' := by
 have HP := Lib.hid hP
 have HW := Lib.hid (fun w hP => word_any' w hP)
 unfold mkEx
 generalize wordS = t at HW ⊢
 have hbx := heap_alloc_new w (.cells #[.int .i8 99, .string t, .int .i8 0, .int .i64 0, .string ⟨#[]⟩, .slice none 0 0] 117)
 have c0 := cell_at hbx 0 _ rfl
 have c1 := cell_at hbx 1 _ rfl
 have c2 := cell_at hbx 2 _ rfl
 have c3 := cell_at hbx 3 _ rfl
 have c4 := cell_at hbx 4 _ rfl
 have c5 := cell_at hbx 5 _ rfl
 clear hbx
 go_enter Tryz.func221, Tryz.ntmps221
 go_wp2
 refine wp_graph 18 [.d, .d, .d, .d, .d, .d, .d, .d, .d, .d, .d, .d, .d, .d, .d, .d, .d, .d] (by kernel_rfl) (by kernel_rfl) (by kernel_rfl) ?_
 simp only [takS, Exs]
 iterate 18 apply Exists.intro
 apply Run.valG (wanted_none rfl _)
 ·intro w1 h1 hk
  have q0 := h1.cell c0; have q1 := h1.cell c1; have q2 := h1.cell c2; have q3 := h1.cell c3; have q4 := h1.cell c4; have q5 := h1.cell c5
  have hcw := fun b o => Below.cell (p := ⟨b, o, none⟩) h1
  go_simp; rfl
 simp only [actS]
 apply Run.valG (wanted_none rfl _)
 ·intro w1 h1 hk
  have q0 := h1.cell c0; have q1 := h1.cell c1; have q2 := h1.cell c2; have q3 := h1.cell c3; have q4 := h1.cell c4; have q5 := h1.cell c5
  have hcw := fun b o => Below.cell (p := ⟨b, o, none⟩) h1
  go_simp; rfl
 simp only [actS]
 apply Run.valG (wanted_none rfl _)
 ·intro w1 h1 hk
  have q0 := h1.cell c0; have q1 := h1.cell c1; have q2 := h1.cell c2; have q3 := h1.cell c3; have q4 := h1.cell c4; have q5 := h1.cell c5
  have hcw := fun b o => Below.cell (p := ⟨b, o, none⟩) h1
  go_simp; rfl
 simp only [actS]
 apply Run.valG (wanted_none rfl _)
 ·intro w1 h1 hk
  have q0 := h1.cell c0; have q1 := h1.cell c1; have q2 := h1.cell c2; have q3 := h1.cell c3; have q4 := h1.cell c4; have q5 := h1.cell c5
  have hcw := fun b o => Below.cell (p := ⟨b, o, none⟩) h1
  go_simp; rfl
 simp only [actS]
 apply Run.valG (by go_simp)
 ·intro w1 h1 hk
  have q0 := h1.cell c0; have q1 := h1.cell c1; have q2 := h1.cell c2; have q3 := h1.cell c3; have q4 := h1.cell c4; have q5 := h1.cell c5
  have hcw := fun b o => Below.cell (p := ⟨b, o, none⟩) h1
  go_simp; rfl
 simp only [actS]
 apply Run.valG (by go_simp)
 ·intro w1 h1 hk
  have q0 := h1.cell c0; have q1 := h1.cell c1; have q2 := h1.cell c2; have q3 := h1.cell c3; have q4 := h1.cell c4; have q5 := h1.cell c5
  have hcw := fun b o => Below.cell (p := ⟨b, o, none⟩) h1
  go_simp; rfl
 simp only [actS]
 apply Run.valG (by go_simp)
 ·intro w1 h1 hk
  have q0 := h1.cell c0; have q1 := h1.cell c1; have q2 := h1.cell c2; have q3 := h1.cell c3; have q4 := h1.cell c4; have q5 := h1.cell c5
  have hcw := fun b o => Below.cell (p := ⟨b, o, none⟩) h1
  go_simp; rfl
 simp only [actS]
 apply Run.call (by go_simp) (fun _ _ => by go_simp; exact ⟨rfl, rfl⟩)
 ·intro w1 h1 hk
  have q0 := h1.cell c0; have q1 := h1.cell c1; have q2 := h1.cell c2; have q3 := h1.cell c3; have q4 := h1.cell c4; have q5 := h1.cell c5
  exact HW.out _ (HP.out.fut (((Fut.alloc _ _).trans (Fut.drew _)).trans h1))
 simp only [actS]
 apply Run.valG (by go_simp)
 ·intro w1 h1 hk
  have q0 := h1.cell c0; have q1 := h1.cell c1; have q2 := h1.cell c2; have q3 := h1.cell c3; have q4 := h1.cell c4; have q5 := h1.cell c5
  have hcw := fun b o => Below.cell (p := ⟨b, o, none⟩) h1
  go_simp; rfl
 simp only [actS]
 apply Run.valG (by go_simp)
 ·intro w1 h1 hk
  have q0 := h1.cell c0; have q1 := h1.cell c1; have q2 := h1.cell c2; have q3 := h1.cell c3; have q4 := h1.cell c4; have q5 := h1.cell c5
  have hcw := fun b o => Below.cell (p := ⟨b, o, none⟩) h1
  go_simp; rfl
 simp only [actS]
 apply Run.valG (wanted_none rfl _)
 ·intro w1 h1 hk
  have q0 := h1.cell c0; have q1 := h1.cell c1; have q2 := h1.cell c2; have q3 := h1.cell c3; have q4 := h1.cell c4; have q5 := h1.cell c5
  have hcw := fun b o => Below.cell (p := ⟨b, o, none⟩) h1
  go_simp; rfl
 simp only [actS]
 apply Run.valG (wanted_none rfl _)
 ·intro w1 h1 hk
  have q0 := h1.cell c0; have q1 := h1.cell c1; have q2 := h1.cell c2; have q3 := h1.cell c3; have q4 := h1.cell c4; have q5 := h1.cell c5
  have hcw := fun b o => Below.cell (p := ⟨b, o, none⟩) h1
  go_simp; rfl
 simp only [actS]
 apply Run.valG (by go_simp)
 ·intro w1 h1 hk
  have q0 := h1.cell c0; have q1 := h1.cell c1; have q2 := h1.cell c2; have q3 := h1.cell c3; have q4 := h1.cell c4; have q5 := h1.cell c5
  have hcw := fun b o => Below.cell (p := ⟨b, o, none⟩) h1
  go_simp; rfl
 simp only [actS]
 apply Run.valG (by go_simp)
 ·intro w1 h1 hk
  have q0 := h1.cell c0; have q1 := h1.cell c1; have q2 := h1.cell c2; have q3 := h1.cell c3; have q4 := h1.cell c4; have q5 := h1.cell c5
  have hcw := fun b o => Below.cell (p := ⟨b, o, none⟩) h1
  go_simp; rfl
 simp only [actS]
 apply Run.valG (by go_simp)
 ·intro w1 h1 hk
  have q0 := h1.cell c0; have q1 := h1.cell c1; have q2 := h1.cell c2; have q3 := h1.cell c3; have q4 := h1.cell c4; have q5 := h1.cell c5
  have hcw := fun b o => Below.cell (p := ⟨b, o, none⟩) h1
  go_simp; rfl
 simp only [actS]
 apply Run.valG (by go_simp)
 ·intro w1 h1 hk
  have q0 := h1.cell c0; have q1 := h1.cell c1; have q2 := h1.cell c2; have q3 := h1.cell c3; have q4 := h1.cell c4; have q5 := h1.cell c5
  have hcw := fun b o => Below.cell (p := ⟨b, o, none⟩) h1
  go_simp; rfl
 simp only [actS]
 apply Run.valG (wanted_none rfl _)
 ·intro w1 h1 hk
  have q0 := h1.cell c0; have q1 := h1.cell c1; have q2 := h1.cell c2; have q3 := h1.cell c3; have q4 := h1.cell c4; have q5 := h1.cell c5
  have hcw := fun b o => Below.cell (p := ⟨b, o, none⟩) h1
  go_simp; rfl
 simp only [actS]
 apply Run.valG (wanted_none rfl _)
 ·intro w1 h1 hk
  have q0 := h1.cell c0; have q1 := h1.cell c1; have q2 := h1.cell c2; have q3 := h1.cell c3; have q4 := h1.cell c4; have q5 := h1.cell c5
  have hcw := fun b o => Below.cell (p := ⟨b, o, none⟩) h1
  go_simp; rfl
 simp only [actS]
 apply Run.done
 intro w2 h2 hk
 clear hk
 go_wp2
 go_ret
 exact ⟨by first | rfl | simp, (Fut.alloc _ _).trans ((Fut.drew _).trans h2)⟩
def LeftExsOk (h : Nat) : Prop := ∀ (xs : List Ex) (t a : Value) (B M : Nat) (w : World), Pows w → TwExs h B w t xs → SlRep 6 M (RE h) w a xs → Ex.sizes xs ≤ 100000000 →
 Calls Tryz.prog 290 #[t, a] w fun e w' => e = .returned (.bool true) ∧ Fut w w'
set_option maxHeartbeats 2000000 in
theorem leftExpr_of (h : Nat) (IH : LeftExsOk h) (x : Ex) (ct cs : List Value) (B : Nat) (w : World) (hP : Pows w) (ht : TwEx (h + 1) B w ct x) (hx : RE (h + 1) w cs x) (hs : x.size ≤ 100000000) :
  Calls Tryz.prog 262 #[.agg ct.toArray, .agg cs.toArray] w fun e w' => e = .returned (.bool true) ∧ Fut w w' := by
 obtain ⟨op, ⟨tv, ⟨xk, xn, xs⟩⟩, ks⟩ := x
 obtain ⟨kv, rfl, _, _, hk⟩ := hx
 obtain ⟨tk, rfl, htk⟩ := ht
 obtain ⟨A, c, rfl, _, _⟩ := hk.form
 obtain ⟨g, _, rfl, _⟩ := TwinE.mark htk rfl (by decide)
 have hsz : Ex.sizes ks ≤ 100000000 := by unfold Ex.size at hs; omega
 dsimp only at *
 have f0 := Fut.alloc w (.cells #[.int .i8 op, .string tv, .int .i8 xk, .int .i64 xn, .string xs, .slice (some ⟨g, 0, none⟩) ks.length (ks.length + 1)] 117)
 have hb1 := heap_alloc_new w (.cells #[.int .i8 op, .string tv, .int .i8 xk, .int .i64 xn, .string xs, .slice (some ⟨g, 0, none⟩) ks.length (ks.length + 1)] 117)
 have hs1 : (w.alloc (.cells #[.int .i8 op, .string tv, .int .i8 xk, .int .i64 xn, .string xs, .slice (some ⟨g, 0, none⟩) ks.length (ks.length + 1)] 117)).heap.size = w.heap.size + 1 := by simp
 have f1 := Fut.alloc (w.alloc (.cells #[.int .i8 op, .string tv, .int .i8 xk, .int .i64 xn, .string xs, .slice (some ⟨g, 0, none⟩) ks.length (ks.length + 1)] 117)) (.cells #[.int .i8 op, .string tv, .int .i8 xk, .int .i64 xn, .string xs, .slice A ks.length c] 117)
 have hb2 := heap_alloc_new (w.alloc (.cells #[.int .i8 op, .string tv, .int .i8 xk, .int .i64 xn, .string xs, .slice (some ⟨g, 0, none⟩) ks.length (ks.length + 1)] 117)) (.cells #[.int .i8 op, .string tv, .int .i8 xk, .int .i64 xn, .string xs, .slice A ks.length c] 117)
 rw [hs1] at hb2
 have hb11 := f1.block hb1
 have f01 := f0.trans f1
 have HK := Lib.hid (IH ks _ _ B _ _ (hP.fut f01) (TwExs.keep htk f01) (hk.fut (RE.stays h) f01) hsz)
 have F01 := Lib.hid f01
 have c0 := cell_at hb11 0 _ rfl
 have c1 := cell_at hb11 1 _ rfl
 have c2 := cell_at hb11 2 _ rfl
 have c3 := cell_at hb11 3 _ rfl
 have c4 := cell_at hb11 4 _ rfl
 have c5 := cell_at hb11 5 _ rfl
 have d0 := cell_at hb2 0 _ rfl
 have d1 := cell_at hb2 1 _ rfl
 have d2 := cell_at hb2 2 _ rfl
 have d3 := cell_at hb2 3 _ rfl
 have d4 := cell_at hb2 4 _ rfl
 have d5 := cell_at hb2 5 _ rfl
 clear f0 f1 f01 hb1 hb2 hb11 hs1 hk htk IH hP hs hsz
 go_enter Tryz.func262, Tryz.ntmps262
 go_wp2_with fail
 refine HK.out.mono ?_
 rintro e w2 ⟨rfl, f2⟩
 have F2 := F01.out.trans f2
 clear f2 c0 c1 c2 c3 c4 c5 d0 d1 d2 d3 d4 d5
 go_wp2
 go_ret
 exact ⟨rfl, F2⟩
theorem TwinE.row {α : Type} {sz : Nat} {e : TypeId} {z : List Value} {RE : Nat → World → List Value → α → Prop} {RM : World → List Value → Prop} {B : Nat} {w : World} {v : Value} {xs : List α} (h : TwinE sz e z RE RM B w v xs) {k : Nat} (hk : k < xs.length) :
  ∃ g cs, B ≤ g ∧ v = .slice (some ⟨g, 0, none⟩) xs.length (xs.length + 1) ∧ cs.length = sz ∧ RE (g + 1) w cs xs[k] ∧ ∀ j u, cs[j]? = some u → w.cell? ⟨g, k * sz + j, none⟩ = some u := by
 obtain ⟨g, css, h1, h2, h3, h4, h5, h6⟩ := h
 have hc : css[k]? = some (css[k]'(by omega)) := List.getElem?_eq_getElem (by omega)
 obtain ⟨hl, hr⟩ := h5 k _ _ (List.getElem?_eq_getElem hk) hc
 refine ⟨g, _, h1, h2, hl, hr, fun j u hj => ?_⟩
 have hjl : j < sz := by rw [← hl]; exact (List.getElem?_eq_some_iff.1 hj).1
 have hm : (k + 1) * sz ≤ (xs.length + 1) * sz := Nat.mul_le_mul_right _ (by omega)
 rw [Nat.add_mul] at hm
 rw [h4.cell (by omega), cellsAt_get hc hj hjl]
set_option maxHeartbeats 2000000 in
theorem leftExs_of (h : Nat) (HX : ∀ (x : Ex) (ct cs : List Value) (B : Nat) (w : World), Pows w → TwEx h B w ct x → RE h w cs x → x.size ≤ 100000000 →
  Calls Tryz.prog 262 #[.agg ct.toArray, .agg cs.toArray] w fun e w' => e = .returned (.bool true) ∧ Fut w w') : LeftExsOk h := by
 intro xs t a B M w hP ht ha hs
 have hn : xs.length ≤ 100000000 := Nat.le_trans (len_sizes xs) hs
 obtain ⟨A, c, rfl, _, _⟩ := ha.form
 obtain ⟨g, hg, rfl, hmk⟩ := TwinE.mark ht rfl (by decide)
 have HT := Lib.hid ht
 have HA := Lib.hid ha
 have HP := Lib.hid hP
 have HXX := Lib.hid HX
 have HS := Lib.hid (fun x (hx : x ∈ xs) => Nat.le_trans (size_kid hx) hs)
 have HMK := Lib.hid hmk
 have HI := Lib.hid (fun W hW => isEx_any W hW)
 have hxl : xs.length ≤ 9223372036854775807 := by omega
 have hiN := infoExN
 clear ht ha hP HX hmk hs
 go_enter Tryz.func290, Tryz.ntmps290
 go_wp2
 go_loopw [5] (fun i wr => ∃ k : Nat, k ≤ xs.length ∧ i = .int .i64 k ∧ Hid (Fut w wr)) (fun i _ => xs.length - (intOf i).toNat)
 case atStart => exact ⟨0, Nat.zero_le _, rfl, Lib.hid (Fut.refl _)⟩
 case round =>
  obtain ⟨k, hk, rfl, hF⟩ := hrel
  by_cases hlt : k < xs.length
  ·have hltI : (k : Int) < xs.length := by omega
   have e0 : (0 : Int) ≤ k ∧ (k : Int) < xs.length := by omega
   obtain ⟨b1, o1, cs1, rfl, hr1, _, hc1⟩ := sl_row HA.out hlt
   obtain ⟨g', cs2, _, hge, _, hr2, hc2⟩ := TwinE.row HT.out hlt
   injection hge with hge _ _
   injection hge with hge
   injection hge with hge _ _
   subst hge
   have hzx := HS.out _ (List.getElem_mem hlt)
   generalize xs[k] = z at *
   have hr1' := Lib.hid hr1
   have hr2' := Lib.hid hr2
   obtain ⟨m, op, ⟨tv, ⟨xk, xn, xs'⟩⟩, ks, A', c', rfl, rfl, rfl, _, _, _⟩ := ex_form hr1
   obtain ⟨tk, rfl, htk⟩ := hr2
   obtain ⟨g2, _, rfl, _⟩ := TwinE.mark htk rfl (by decide)
   dsimp only at *
   have FW := hF.out
   have s0 := FW.cell (show w.cell? ⟨b1, o1 + k * 6, none⟩ = some _ from hc1 0 _ rfl)
   have s1 := FW.cell (show w.cell? ⟨b1, o1 + k * 6 + 1, none⟩ = some _ from hc1 1 _ rfl)
   have s2 := FW.cell (show w.cell? ⟨b1, o1 + k * 6 + 2, none⟩ = some _ from hc1 2 _ rfl)
   have s3 := FW.cell (show w.cell? ⟨b1, o1 + k * 6 + 3, none⟩ = some _ from hc1 3 _ rfl)
   have s4 := FW.cell (show w.cell? ⟨b1, o1 + k * 6 + 4, none⟩ = some _ from hc1 4 _ rfl)
   have s5 := FW.cell (show w.cell? ⟨b1, o1 + k * 6 + 5, none⟩ = some _ from hc1 5 _ rfl)
   have t0 := FW.cell (show w.cell? ⟨g, k * 6, none⟩ = some _ from hc2 0 _ rfl)
   have t1 := FW.cell (show w.cell? ⟨g, k * 6 + 1, none⟩ = some _ from hc2 1 _ rfl)
   have t2 := FW.cell (show w.cell? ⟨g, k * 6 + 2, none⟩ = some _ from hc2 2 _ rfl)
   have t3 := FW.cell (show w.cell? ⟨g, k * 6 + 3, none⟩ = some _ from hc2 3 _ rfl)
   have t4 := FW.cell (show w.cell? ⟨g, k * 6 + 4, none⟩ = some _ from hc2 4 _ rfl)
   have t5 := FW.cell (show w.cell? ⟨g, k * 6 + 5, none⟩ = some _ from hc2 5 _ rfl)
   have HC := Lib.hid (fun W (hW : Fut w W) => HXX.out _ _ _ _ W (HP.out.fut hW) (hr2'.out.keep hW) (RE.stays _ _ _ _ _ hW hr1'.out) hzx)
   clear FW hc1 hc2 hr1 htk hzx hr1' hr2'
   go_wp2
   refine wp_graph 10 [.d, .d, .d, .d, .d, .d, .d, .d, .d, .d] (by kernel_rfl) (by kernel_rfl) (by kernel_rfl) ?_
   simp only [takS, Exs]
   iterate 10 apply Exists.intro
   apply Run.valG (wanted_none rfl _)
   ·intro w1 h1 hk
    have r0 := h1.cell s0; have r1 := h1.cell s1; have r2 := h1.cell s2; have r3 := h1.cell s3; have r4 := h1.cell s4; have r5 := h1.cell s5; have p0 := h1.cell t0; have p1 := h1.cell t1; have p2 := h1.cell t2; have p3 := h1.cell t3; have p4 := h1.cell t4; have p5 := h1.cell t5
    have hcw := fun b o => Below.cell (p := ⟨b, o, none⟩) h1
    go_simp; rfl
   simp only [actS]
   apply Run.valG (wanted_none rfl _)
   ·intro w1 h1 hk
    have r0 := h1.cell s0; have r1 := h1.cell s1; have r2 := h1.cell s2; have r3 := h1.cell s3; have r4 := h1.cell s4; have r5 := h1.cell s5; have p0 := h1.cell t0; have p1 := h1.cell t1; have p2 := h1.cell t2; have p3 := h1.cell t3; have p4 := h1.cell t4; have p5 := h1.cell t5
    have hcw := fun b o => Below.cell (p := ⟨b, o, none⟩) h1
    go_simp; rfl
   simp only [actS]
   apply Run.valG (wanted_none rfl _)
   ·intro w1 h1 hk
    have r0 := h1.cell s0; have r1 := h1.cell s1; have r2 := h1.cell s2; have r3 := h1.cell s3; have r4 := h1.cell s4; have r5 := h1.cell s5; have p0 := h1.cell t0; have p1 := h1.cell t1; have p2 := h1.cell t2; have p3 := h1.cell t3; have p4 := h1.cell t4; have p5 := h1.cell t5
    have hcw := fun b o => Below.cell (p := ⟨b, o, none⟩) h1
    go_simp; rfl
   simp only [actS]
   apply Run.valG (wanted_none rfl _)
   ·intro w1 h1 hk
    have r0 := h1.cell s0; have r1 := h1.cell s1; have r2 := h1.cell s2; have r3 := h1.cell s3; have r4 := h1.cell s4; have r5 := h1.cell s5; have p0 := h1.cell t0; have p1 := h1.cell t1; have p2 := h1.cell t2; have p3 := h1.cell t3; have p4 := h1.cell t4; have p5 := h1.cell t5
    have hcw := fun b o => Below.cell (p := ⟨b, o, none⟩) h1
    go_simp; rfl
   simp only [actS]
   apply Run.valG (wanted_none rfl _)
   ·intro w1 h1 hk
    have r0 := h1.cell s0; have r1 := h1.cell s1; have r2 := h1.cell s2; have r3 := h1.cell s3; have r4 := h1.cell s4; have r5 := h1.cell s5; have p0 := h1.cell t0; have p1 := h1.cell t1; have p2 := h1.cell t2; have p3 := h1.cell t3; have p4 := h1.cell t4; have p5 := h1.cell t5
    have hcw := fun b o => Below.cell (p := ⟨b, o, none⟩) h1
    go_simp; rfl
   simp only [actS]
   apply Run.valG (wanted_none rfl _)
   ·intro w1 h1 hk
    have r0 := h1.cell s0; have r1 := h1.cell s1; have r2 := h1.cell s2; have r3 := h1.cell s3; have r4 := h1.cell s4; have r5 := h1.cell s5; have p0 := h1.cell t0; have p1 := h1.cell t1; have p2 := h1.cell t2; have p3 := h1.cell t3; have p4 := h1.cell t4; have p5 := h1.cell t5
    have hcw := fun b o => Below.cell (p := ⟨b, o, none⟩) h1
    go_simp; rfl
   simp only [actS]
   apply Run.valG (wanted_none rfl _)
   ·intro w1 h1 hk
    have r0 := h1.cell s0; have r1 := h1.cell s1; have r2 := h1.cell s2; have r3 := h1.cell s3; have r4 := h1.cell s4; have r5 := h1.cell s5; have p0 := h1.cell t0; have p1 := h1.cell t1; have p2 := h1.cell t2; have p3 := h1.cell t3; have p4 := h1.cell t4; have p5 := h1.cell t5
    have hcw := fun b o => Below.cell (p := ⟨b, o, none⟩) h1
    go_simp; rfl
   simp only [actS]
   apply Run.valG (wanted_none rfl _)
   ·intro w1 h1 hk
    have r0 := h1.cell s0; have r1 := h1.cell s1; have r2 := h1.cell s2; have r3 := h1.cell s3; have r4 := h1.cell s4; have r5 := h1.cell s5; have p0 := h1.cell t0; have p1 := h1.cell t1; have p2 := h1.cell t2; have p3 := h1.cell t3; have p4 := h1.cell t4; have p5 := h1.cell t5
    have hcw := fun b o => Below.cell (p := ⟨b, o, none⟩) h1
    go_simp; rfl
   simp only [actS]
   apply Run.call (wanted_none rfl _) (fun _ _ => by go_simp; exact ⟨rfl, rfl⟩)
   ·intro w1 h1 hk
    have r0 := h1.cell s0; have r1 := h1.cell s1; have r2 := h1.cell s2; have r3 := h1.cell s3; have r4 := h1.cell s4; have r5 := h1.cell s5; have p0 := h1.cell t0; have p1 := h1.cell t1; have p2 := h1.cell t2; have p3 := h1.cell t3; have p4 := h1.cell t4; have p5 := h1.cell t5
    exact HC.out _ ((hF.out.trans (Fut.drew _)).trans h1)
   simp only [actS]
   apply Run.valG (wanted_none rfl _)
   ·intro w1 h1 hk
    have r0 := h1.cell s0; have r1 := h1.cell s1; have r2 := h1.cell s2; have r3 := h1.cell s3; have r4 := h1.cell s4; have r5 := h1.cell s5; have p0 := h1.cell t0; have p1 := h1.cell t1; have p2 := h1.cell t2; have p3 := h1.cell t3; have p4 := h1.cell t4; have p5 := h1.cell t5
    have hcw := fun b o => Below.cell (p := ⟨b, o, none⟩) h1
    go_simp; rfl
   simp only [actS]
   apply Run.done
   intro w2 h2 hk
   clear hk
   have F9 := Lib.hid (hF.out.trans ((Fut.drew _).trans h2))
   clear h2
   go_wp2
   go_roundw
   case rel => exact ⟨k + 1, by omega, by go_num, F9⟩
   case measure => simp [intOf] <;> omega
  ·obtain rfl : k = xs.length := by omega
   have hcs9 := Lib.hid (fun j u (hj : mkEx[j]? = some u) => hF.out.cell (HMK.out j u hj))
   have e1 : (0 : Int) ≤ xs.length ∧ (xs.length : Int) < xs.length + 1 := by omega
   go_wp2_with (first | (show wpList _ _ _ (Oper.mk _ (Op.load _ _) _ _ _ _ :: _) _ _; refine wpList_load_mid rfl _ _ rfl g (xs.length * 6) rfl mkEx _ hcs9.out Tryz.underlying117 rfl hiN ?_))
   refine (HI.out _ (HP.out.fut hF.out)).mono ?_
   rintro e w2 ⟨rfl, f2⟩
   have F2 := hF.out.trans f2
   clear f2
   go_wp2
   go_ret
   exact ⟨rfl, F2⟩
theorem leftExs_any : ∀ h, LeftExsOk h
 | 0 => leftExs_of 0 fun x ct cs B w _ hx => hx.elim
 | h + 1 => leftExs_of (h + 1) fun x ct cs B w hP ht hx hs => leftExpr_of h (leftExs_any h) x ct cs B w hP ht hx hs
theorem leftExpr_any (x : Ex) (ct cs : List Value) (B : Nat) (w : World) (h : Nat) (hP : Pows w) (ht : TwEx h B w ct x) (hx : RE h w cs x) (hs : x.size ≤ 100000000) :
  Calls Tryz.prog 262 #[.agg ct.toArray, .agg cs.toArray] w fun e w' => e = .returned (.bool true) ∧ Fut w w' := by
 cases h with
 | zero => exact hx.elim
 | succ h => exact leftExpr_of h (leftExs_any h) x ct cs B w hP ht hx hs
end Go.Proofs.YtdjffkkbjbiihaaGreatDoor
