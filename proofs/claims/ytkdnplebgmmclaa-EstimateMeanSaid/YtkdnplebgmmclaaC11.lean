/- Share, Lives25, MeanP, OwnB, SzQ, SzR, IterLay -/
import Derived.Laws.FloatArith
import Derived.Laws.Cover2
import Derived.Shelf.SlIter.Nil
import Derived.Shelf.SortM.Plain
import Derived.Shelf.SortM.SortNone
import Derived.Ground.GgzProg
import Derived.Ground.SlgmProg
import Derived.Test.YtkdnplebgmmclaaProg
import Derived.Test.YtkdnplebgmmclaaC10
/- Share: the mean and the spread of a column's numbers; the program's and the document's compute the same. -/
namespace Go.Proofs.Ytkdnplebgmmclaa
open Go.RowKit
set_option linter.unusedSimpArgs false
set_option linter.unusedVariables false

def val0 : V := ⟨0, 0, ⟨#[]⟩⟩
/-- The number that stands in a column of a fact of that name. -/
def numAt (p : ByteArray) (c : Int) (f : Fc) : Option Int :=
  if f.p = p ∧ 0 ≤ c ∧ c < f.a.length ∧ (f.a.getD c.toNat val0).k = 1 ∧ chk (f.a.getD c.toNat val0).k (f.a.getD c.toNat val0).n (f.a.getD c.toNat val0).s = 0 then some (f.a.getD c.toNat val0).n else none
def nums (X : List Fc) (p : ByteArray) (c : Int) : List Int := X.filterMap (numAt p c)
theorem nums_snoc (X : List Fc) (f : Fc) (p : ByteArray) (c : Int) : nums (X ++ [f]) p c = nums X p c ++ (numAt p c f).toList := by
  unfold nums
  rw [List.filterMap_append]
  cases h : numAt p c f <;> simp [h]
theorem nums_len (X : List Fc) (p : ByteArray) (c : Int) : (nums X p c).length ≤ X.length := List.length_filterMap_le _ _
/-- A list of floats. -/
def RFl (_ : World) (cs : List Value) (x : Nat) : Prop := cs = [.float .f64 x]
theorem RFl.stays : Stays RFl := fun _ _ _ _ _ h => h
theorem RFl.one : ∀ (w : World) cs x, RFl w cs x → ∀ u ∈ cs, u.oneCell' = true := fun w cs x h u hu => by
  obtain rfl : cs = _ := h
  simp only [List.mem_singleton] at hu
  subst hu; rfl
theorem RFl.keeps {e : TypeId} : Keeps e RFl := fun _ _ _ _ _ h _ _ => h
theorem infoFl : (Try.prog.info? 34).map (fun i => (i.zero, i.size, i.bytes)) = some (some (.float .f64 0), 1, 8) := by kernel_rfl
theorem flOne (w : World) (x : Nat) : SlRep 1 1 RFl (w.alloc (.cells #[.float .f64 x] 34)) (.slice (some ⟨w.heap.size, 0, none⟩) 1 1) [x] :=
  ⟨_, 1, rfl, Nat.le_refl _, Nat.le_refl _, fun i y hy => by
    have hi : i = 0 := by
      have := (List.getElem?_eq_some_iff.1 hy).1
      simp at this; omega
    subst hi
    simp at hy
    subst hy
    refine ⟨w.heap.size, 0, _, rfl, rfl, fun j c hj => ?_, rfl⟩
    rw [show 0 + (0 * 1 + j) = j by omega]
    have h0 := heap_alloc_new w (.cells #[.float .f64 x] 34)
    simp only [World.cell?, h0]
    simpa using hj⟩
theorem fl_at {w : World} {A : Option Addr} {n cap M : Nat} {xs : List Nat} (h : SlRep 1 M RFl w (.slice A n cap) xs) {k : Nat} (hk : k < xs.length) :
    ∃ b off, A = some ⟨b, off, none⟩ ∧ w.cell? ⟨b, off + k, none⟩ = some (.float .f64 xs[k]) := by
  obtain ⟨A1, cap1, hv, _, _, h3⟩ := h
  obtain ⟨b, off, cs, hA, hl, hc, hr⟩ := h3 k _ (List.getElem?_eq_getElem hk)
  injection hv with hv _ _
  obtain rfl : cs = _ := hr
  refine ⟨b, off, hv.trans hA, ?_⟩
  have := hc 0 _ rfl
  rwa [Nat.mul_one, Nat.add_zero] at this
/-- An operation on floats. -/
theorem exec_fl {P : Program} {w : World} {o : Oper} {a : Act} {op : BinOp} {t kt : TypeId} {x y r : Nat} (p q : Operand) (ho : o.op = .binOp op t p q kt) (hp : a.eval p = .float .f64 x) (hq : a.eval q = .float .f64 y) (h : floatBits op .f64 x y = some r) :
    (execOp a.eval o).run P w = .ok (.value (.float .f64 r)) w := by
  unfold execOp
  simp only [ho, hp, hq, Sem.run_bind]
  have h1 : (eqGuard op t p q (.float .f64 x) (.float .f64 y)).run P w = .ok () w := by cases op <;> simp [eqGuard]
  rw [h1, Result.andThen_ok, run_float_arith (P := P) w op t .f64 x y r h]
  rfl
theorem floatOfInt_fl (n : Int) : floatOfInt .f64 n = Fl.fl n := rfl
theorem chk_two (k n : Int) (s : ByteArray) : chk k n s = 0 ∨ chk k n s = 10 := by
  unfold chk
  split
  · exact .inl rfl
  · split
    · exact .inl rfl
    · exact .inr rfl
theorem numAt_some {p : ByteArray} {c : Int} {f : Fc} {q : Nat} (hp : f.p = p) (hc : c = q) (hq : q < f.a.length) (hk : f.a[q].k = 1) (h0 : chk f.a[q].k f.a[q].n f.a[q].s = 0) : numAt p c f = some f.a[q].n := by
  subst hc
  have hg : f.a.getD (q : Int).toNat val0 = f.a[q] := by simp [List.getD, hq]
  unfold numAt
  rw [hg, if_pos ⟨hp, by omega, by omega, hk, h0⟩]
theorem numAt_none {p : ByteArray} {c : Int} {f : Fc} (h : ¬ (f.p = p ∧ 0 ≤ c ∧ c < f.a.length ∧ (f.a.getD c.toNat val0).k = 1 ∧ chk (f.a.getD c.toNat val0).k (f.a.getD c.toNat val0).n (f.a.getD c.toNat val0).s = 0)) : numAt p c f = none := if_neg h
theorem ownG_ok {B B' : Nat} {e ev : TypeId} {w : World} {A : Option Addr} {n cap : Nat} {X : List Fc} (h : OwnL 2 B e (RGo B' ev) w (.slice A n cap) X) : ∀ f ∈ X, ∀ v ∈ f.a, v.ok := fun f hf v hv => by
  obtain ⟨k, hk, rfl⟩ := List.mem_iff_getElem.1 hf
  obtain ⟨_, _, _, _, _, _, _, _, h1⟩ := ownG_at h hk
  exact Vals.oks h1.vals v hv
theorem wfN {n : Int} (h : (Lit.int .i64 n).wf = true) : n.natAbs ≤ 2 ^ 63 := by
  have : -9223372036854775808 ≤ n ∧ n ≤ 9223372036854775807 := by simpa [Lit.wf, IntKind.min, IntKind.max, IntKind.signed, IntKind.bits] using h
  omega
theorem nums_bd {X : List Fc} (h : ∀ f ∈ X, ∀ v ∈ f.a, v.ok) (p : ByteArray) (c : Int) : ∀ x ∈ (nums X p c).map Fl.fl, Fl.Bd x 1 63 := fun x hx => by
  obtain ⟨n, hn, rfl⟩ := List.mem_map.1 hx
  obtain ⟨f, hf, he⟩ := List.mem_filterMap.1 hn
  unfold numAt at he
  split at he
  · rename_i h1
    injection he with he
    have hq : c.toNat < f.a.length := by omega
    have hg : f.a.getD c.toNat val0 = f.a[c.toNat] := by simp [List.getD, hq]
    rw [← he, hg]
    exact Fl.Bd.ofInt (wfN (h f hf _ (List.getElem_mem hq)).2.1)
  · cases he
theorem take_fold {β : Type} (g : β → Nat → β) (a : β) {M : List Nat} {k : Nat} (hk : k < M.length) : (M.take (k + 1)).foldl g a = g ((M.take k).foldl g a) M[k] := by
  rw [List.take_succ_eq_append_getElem hk, List.foldl_append]; rfl
theorem spread_bd {mn n : Nat} (hm : Fl.Bd mn (2 ^ 20) 63) (hn : 0 < n) (hn2 : n ≤ 2 ^ 20) : ∀ (l : List Nat), (∀ x ∈ l, Fl.Bd x 1 63) → ∀ (a c : Nat), Fl.Bd a c 168 → c + l.length ≤ 2 ^ 20 → Fl.Bd (l.foldl (fun s x => Fl.addF s (Fl.partF mn (Fl.fl n) x)) a) (c + l.length) 168
  | [], _, a, c, h, _ => h
  | x :: l, hl, a, c, h, hc => by
    rw [List.length_cons] at hc ⊢
    rw [List.foldl_cons, show c + (l.length + 1) = (c + 1) + l.length by omega]
    exact spread_bd hm hn hn2 l (fun y hy => hl y (List.mem_cons_of_mem _ hy)) _ _ (h.add (Fl.Bd.part hm (hl x List.mem_cons_self) hn hn2).2.2.2 (by omega) (by decide)).2 (by omega)
def mOf (L : List Int) : Nat := if L = [] then 0 else Fl.meanF (L.map Fl.fl)
def sOf (L : List Int) : Nat := if L = [] then 0 else Fl.spreadF (L.map Fl.fl)
set_option maxHeartbeats 2000000 in
set_option maxRecDepth 100000 in
theorem share_any (a : Value) (ts : List Fc) (p : ByteArray) (c : Int) (w : World) (ha : FacsG w a ts) (hb : ts.length ≤ 1048576) (hl : ∀ t ∈ ts, t.a.length ≤ 4398046511104) :
    Calls Try.prog 8 #[a, .string p, .int .i64 c] w fun e w' => e = .returned (.tuple #[.float .f64 (mOf (nums (sortU cmpF ts) p c)), .float .f64 (sOf (nums (sortU cmpF ts) p c)), .int .i64 (nums (sortU cmpF ts) p c).length]) ∧ Fut w w' := by
  have HA := Lib.hid ha
  have HL := Lib.hid hl
  have hX : (sortU cmpF ts).length ≤ 1048576 := Nat.le_trans (sortU_len ts) hb
  obtain ⟨A0, cap0, rfl, _, _⟩ := SlRep.form ha
  have HC := Lib.hid (facts_any _ ts w HA.out (by omega) HL.out)
  clear ha hl HA HL
  generalize sortU cmpF ts = X at *
  obtain ⟨L, hL⟩ : ∃ L, nums X p c = L := ⟨_, rfl⟩
  rw [hL]
  go_enter Try.func8, Try.ntmps8
  go_wp2_with fail
  refine HC.out.mono ?_
  rintro e w1 ⟨v, rfl, hO, f1⟩
  have HO := Lib.hid hO
  have F1 := Lib.hid f1
  obtain ⟨A, cap, rfl, hcl, hcm⟩ := hO.rep.form
  clear hO f1 HC
  go_wp2_with fail
  go_loopw [9, 20] (fun o i wr => ∃ k : Nat, k ≤ X.length ∧ i = .int .i64 k ∧ Hid (OwnL 1 w1.heap.size 34 RFl wr o ((nums (X.take k) p c).map Fl.fl)) ∧ Hid (Fut w1 wr)) (fun _ i _ => X.length - (intOf i).toNat)
  case atStart => exact ⟨0, Nat.zero_le _, rfl, Lib.hid OwnL.nil, Lib.hid (Fut.refl _)⟩
  case round =>
    obtain ⟨k, hk, rfl, hF, hG⟩ := hrel
    by_cases hlt : k < X.length
    · obtain ⟨b, off, A', cp, rfl, hps, x0, x1, hv⟩ := ownG_at (HO.out.fut RGo.stays hG.out) hlt
      have hnx : X.take (k + 1) = X.take k ++ [X[k]] := List.take_succ_eq_append_getElem hlt
      generalize X[k] = f at *
      have hltI : (k : Int) < X.length := by omega
      have e0 : (0 : Int) ≤ k ∧ (k : Int) < X.length := by omega
      have hN0 : numAt p c f = none → nums (X.take (k + 1)) p c = nums (X.take k) p c := fun h => by rw [hnx, nums_snoc, h]; simp
      by_cases h1 : ¬ f.p = p
      · have hz := numAt_none (c := c) (fun h => h1 h.1)
        have hq : (f.p.toList == p.toList) = false := by
          rw [beq_eq_false_iff_ne]
          exact fun h => h1 (ByteArray.ext (by rw [ByteArray.toList_eq, ByteArray.toList_eq] at h; exact Array.toList_inj.1 h))
        go_wp2
        go_roundw
        case rel => exact ⟨k + 1, by omega, by go_num, Lib.hid (by rw [hN0 hz]; exact hF.out.fut RFl.stays (Fut.alloc _ _)), Lib.hid (hG.out.trans (Fut.alloc _ _))⟩
        case measure => simp [intOf] <;> omega
      replace h1 := Decidable.of_not_not h1
      subst h1
      by_cases h2 : ¬ 0 ≤ c
      · have hz := numAt_none (p := f.p) (c := c) (f := f) (fun h => h2 h.2.1)
        go_wp2
        go_roundw
        case rel => exact ⟨k + 1, by omega, by go_num, Lib.hid (by rw [hN0 hz]; exact hF.out.fut RFl.stays (Fut.alloc _ _)), Lib.hid (hG.out.trans (Fut.alloc _ _))⟩
        case measure => simp [intOf] <;> omega
      replace h2 := Decidable.of_not_not h2
      by_cases h3 : ¬ c < f.a.length
      · have hz := numAt_none (p := f.p) (c := c) (f := f) (fun h => h3 h.2.2.1)
        go_wp2
        go_roundw
        case rel => exact ⟨k + 1, by omega, by go_num, Lib.hid (by rw [hN0 hz]; exact hF.out.fut RFl.stays (Fut.alloc _ _)), Lib.hid (hG.out.trans (Fut.alloc _ _))⟩
        case measure => simp [intOf] <;> omega
      replace h3 := Decidable.of_not_not h3
      obtain ⟨q, rfl⟩ : ∃ q : Nat, c = q := ⟨c.toNat, by omega⟩
      have hql : q < f.a.length := by omega
      have e3 : (0 : Int) ≤ q ∧ (q : Int) < f.a.length := by omega
      obtain ⟨b2, off2, rfl, hok, y0, y1, y2⟩ := hv.vals.at_ hql
      have hsome := fun hk h0 => numAt_some (p := f.p) (c := (q : Int)) (f := f) rfl rfl hql hk h0
      have hnon : ¬ (f.a[q].k = 1 ∧ chk f.a[q].k f.a[q].n f.a[q].s = 0) → numAt f.p q f = none := fun h => numAt_none (fun h' => h (by
        have hg : f.a.getD (q : Int).toNat val0 = f.a[q] := by simp [List.getD, hql]
        rw [hg] at h'
        exact ⟨h'.2.2.2.1, h'.2.2.2.2⟩))
      generalize f.a[q] = z at *
      have y0a := fun o => (Fut.alloc wr o).cell y0
      have y1a := fun o => (Fut.alloc wr o).cell y1
      have y2a := fun o => (Fut.alloc wr o).cell y2
      by_cases h4 : ¬ z.k = 1
      · have hz := hnon (fun h => h4 h.1)
        have h4' : (z.k == 1) = false := by simpa using h4
        go_wp2
        go_roundw
        case rel => exact ⟨k + 1, by omega, by go_num, Lib.hid (by rw [hN0 hz]; exact hF.out.fut RFl.stays (Fut.alloc _ _)), Lib.hid (hG.out.trans (Fut.alloc _ _))⟩
        case measure => simp [intOf] <;> omega
      replace h4 := Decidable.of_not_not h4
      obtain ⟨zk, zn, zs⟩ := z
      dsimp only at hok y0 y1 y2 hsome hnon h4 y0a y1a y2a
      subst h4
      have hsz : zs.size ≤ 140737488351232 := hok.2.2
      go_wp2_with fail
      have h31 := heap_alloc_new wr (.cells #[Value.string f.p, Value.slice (some ⟨b2, off2, none⟩) f.a.length cp] 33)
      have f31 := Fut.alloc wr (.cells #[Value.string f.p, Value.slice (some ⟨b2, off2, none⟩) f.a.length cp] 33)
      obtain ⟨w3, hW⟩ : ∃ W, wr.alloc (.cells #[Value.string f.p, Value.slice (some ⟨b2, off2, none⟩) f.a.length cp] 33) = W := ⟨_, rfl⟩
      rw [hW] at h31 f31 ⊢
      clear hW
      refine (check_any 1 zn zs w3 hsz).mono ?_
      rintro e w4 ⟨rfl, f4⟩
      have F4 := f31.trans f4
      have h41 := f4.block h31
      have c40 : w4.cell? ⟨wr.heap.size, 0, none⟩ = some (.string f.p) := by simp [World.cell?, h41]
      have c41 : w4.cell? ⟨wr.heap.size, 1, none⟩ = some (.slice (some ⟨b2, off2, none⟩) f.a.length cp) := by simp [World.cell?, h41]
      have z0 := F4.cell y0
      have z1 := F4.cell y1
      have z2 := F4.cell y2
      have F4' := Lib.hid F4
      have hF4 := Lib.hid (hF.out.fut RFl.stays F4)
      clear h31 f31 f4 F4 h41 y0 y1 y2 hF
      by_cases h5 : ¬ chk 1 zn zs = 0
      · have hz := hnon (fun h => h5 h.2)
        have h5' : chk 1 zn zs = 10 := (chk_two _ _ _).resolve_left h5
        rw [h5']
        go_wp2
        go_roundw
        case rel => exact ⟨k + 1, by omega, by go_num, Lib.hid (by rw [hN0 hz]; exact hF4.out), Lib.hid (hG.out.trans F4'.out)⟩
        case measure => simp [intOf] <;> omega
      · replace h5 := Decidable.of_not_not h5
        have hy := hsome trivial h5
        have hN1 : (nums (X.take (k + 1)) f.p q).map Fl.fl = (nums (X.take k) f.p q).map Fl.fl ++ [Fl.fl zn] := by rw [hnx, nums_snoc, hy]; simp
        have hln : (nums (X.take k) f.p q).length ≤ k := Nat.le_trans (nums_len _ _ _) (by simp; omega)
        rw [h5]
        go_wp2_with (at_builtin; refine wpList_append_L (R := RFl) (B := w1.heap.size) (xs := (nums (X.take k) f.p q).map Fl.fl) (ys := [Fl.fl zn]) (e := 34) (by go_simp) _ _ 65 rfl Try.underlying65 (.float .f64 0) 8 infoFl rfl (by decide) RFl.one RFl.keeps rfl rfl (hF4.out.fut RFl.stays (Fut.alloc _ _)) (flOne _ _) ?l3 ?l4 ?b3 ?k3)
        case l3 => simp [maxLen]; omega
        case l4 => simp; omega
        case b3 => have h1 := hG.out.size; have h2 := F4'.out.size; simp; omega
        case k3 =>
        intro v' w' o' g'
        have F' := Lib.hid (Fut.grown ((hG.out.trans F4'.out).trans (Fut.alloc _ _)) g' (fun k hk => (hF4.out.block k hk).1))
        rw [← hN1] at o'
        have O' := Lib.hid o'
        clear g' o'
        go_wp2
        go_roundw
        case rel => exact ⟨k + 1, by omega, by go_num, O', F'⟩
        case measure => simp [intOf] <;> omega
    · obtain rfl : k = X.length := by omega
      rw [List.take_length] at hF
      have hBd := nums_bd (ownG_ok HO.out) p c
      have hLl : (nums X p c).length ≤ 1048576 := Nat.le_trans (nums_len _ _ _) hX
      rw [hL] at hF hBd hLl
      clear hL
      obtain ⟨A5, c5, rfl, hc5, _⟩ := hF.out.rep.form
      by_cases hL0 : L = []
      · subst hL0
        go_wp2
        exact bodyPost_ret (v := .tuple #[.float .f64 0, .float .f64 0, .int .i64 0]) (by simp [results, Try.results8, go_sem]) rfl ⟨rfl, F1.out.trans hG.out⟩
      · have hpos : 0 < L.length := List.length_pos_iff.2 hL0
        have hm0 : mOf L = Fl.meanF (L.map Fl.fl) := if_neg hL0
        have hs0 : sOf L = Fl.spreadF (L.map Fl.fl) := if_neg hL0
        have hMl : (L.map Fl.fl).length = L.length := List.length_map _
        generalize hM : L.map Fl.fl = M at *
        have hMp : ¬ (M.length : Int) = 0 := by omega
        have hMpos : 0 < M.length := by omega
        have hMle : M.length ≤ 2 ^ 20 := by omega
        have HQ := Lib.hid (And.intro hm0 (And.intro hs0 hMl))
        clear hM hL0 hm0 hs0 hMl hpos hLl
        have HR := Lib.hid hF.out.rep
        have HBd := Lib.hid hBd
        have FW := Lib.hid (F1.out.trans hG.out)
        clear hF hBd hG F1 HO
        go_wp2_with fail
        go_loopw [6, 73] (fun t i wq => ∃ k : Nat, k ≤ M.length ∧ i = .int .i64 k ∧ t = .float .f64 ((M.take k).foldl Fl.addF 0) ∧ wq = wr) (fun _ i _ => M.length - (intOf i).toNat)
        case atStart => exact ⟨0, Nat.zero_le _, rfl, rfl, rfl⟩
        case round =>
          obtain ⟨k, hk, rfl, rfl, rfl⟩ := hrel
          by_cases hlt : k < M.length
          · have hltI : (k : Int) < M.length := by omega
            have e0 : (0 : Int) ≤ k ∧ (k : Int) < M.length := by omega
            obtain ⟨bm, om, rfl, xm⟩ := fl_at HR.out hlt
            have hs := take_fold Fl.addF 0 hlt
            have hbd : Fl.D.add ((M.take k).foldl Fl.addF 0) M[k] = some (Fl.addF ((M.take k).foldl Fl.addF 0) M[k]) := by
              have h1 := Fl.Bd.sum (l := M.take k) (fun x hx => HBd.out x (List.mem_of_mem_take hx)) 0 0 0 (Fl.Bd.zero 63) (by simp; omega)
              exact (h1.add (HBd.out _ (List.getElem_mem hlt)) (by simp; omega) (by decide)).1
            rw [← hs] at hbd
            have hbd' : floatBits .add .f64 ((M.take k).foldl Fl.addF 0) M[k] = some ((M.take (k + 1)).foldl Fl.addF 0) := hbd
            have hrun := fun W => run_float_arith (P := Try.prog) W .add 34 .f64 _ _ _ hbd'
            clear hbd hbd' hs
            go_wp2
            go_roundw
            case rel => exact ⟨k + 1, by omega, by go_num, rfl, trivial⟩
            case measure => simp [intOf] <;> omega
          · obtain rfl : k = M.length := by omega
            rw [List.take_length]
            have hmean := Fl.Bd.mean HBd.out hMpos hMle
            have hB2 := Lib.hid hmean.2
            have hdiv : floatBits .quo .f64 (M.foldl Fl.addF 0) (floatOfInt .f64 (M.length : Int)) = some (Fl.meanF M) := hmean.1
            have hrun := fun W => run_float_arith (P := Try.prog) W .quo 34 .f64 _ _ _ hdiv
            clear hmean hdiv
            generalize hmn : Fl.meanF M = mn at *
            go_wp2_with fail
            go_loopw [7, 88] (fun t i wq => ∃ k : Nat, k ≤ M.length ∧ i = .int .i64 k ∧ t = .float .f64 ((M.take k).foldl (fun s x => Fl.addF s (Fl.partF mn (Fl.fl M.length) x)) 0) ∧ wq = wr) (fun _ i _ => M.length - (intOf i).toNat)
            case atStart => exact ⟨0, Nat.zero_le _, rfl, rfl, rfl⟩
            case round =>
              obtain ⟨k, hk, rfl, rfl, rfl⟩ := hrel
              by_cases hlt : k < M.length
              · have hltI : (k : Int) < M.length := by omega
                have e0 : (0 : Int) ≤ k ∧ (k : Int) < M.length := by omega
                obtain ⟨bm, om, rfl, xm⟩ := fl_at HR.out hlt
                have hs := take_fold (fun s x => Fl.addF s (Fl.partF mn (Fl.fl M.length) x)) 0 hlt
                obtain ⟨p1, p2, p3, p4⟩ := Fl.Bd.part hB2.out (HBd.out _ (List.getElem_mem hlt)) hMpos hMle
                have p5 := ((spread_bd hB2.out hMpos hMle (M.take k) (fun x hx => HBd.out x (List.mem_of_mem_take hx)) 0 0 (Fl.Bd.zero 168) (by simp; omega)).add p4 (by simp; omega) (by decide)).1
                rw [← hs] at p5
                have q1 : floatBits .sub .f64 M[k] mn = some _ := p1
                have q2 : floatBits .mul .f64 (Fl.subF M[k] mn) (Fl.subF M[k] mn) = some _ := p2
                have q3 : floatBits .quo .f64 (Fl.mulF (Fl.subF M[k] mn) (Fl.subF M[k] mn)) (floatOfInt .f64 (M.length : Int)) = some _ := p3
                have q5 : floatBits .add .f64 ((M.take k).foldl (fun s x => Fl.addF s (Fl.partF mn (Fl.fl M.length) x)) 0) (Fl.partF mn (Fl.fl M.length) M[k]) = some _ := p5
                have r1 := fun W => run_float_arith (P := Try.prog) W .sub 34 .f64 _ _ _ q1
                have r2 := fun W => run_float_arith (P := Try.prog) W .mul 34 .f64 _ _ _ q2
                have r3 := fun W => run_float_arith (P := Try.prog) W .quo 34 .f64 _ _ _ q3
                have r5 := fun W => run_float_arith (P := Try.prog) W .add 34 .f64 _ _ _ q5
                clear p1 p2 p3 p4 p5 q1 q2 q3 q5 hs hrun
                go_wp2
                go_roundw
                case rel => exact ⟨k + 1, by omega, by go_num, rfl, trivial⟩
                case measure => simp [intOf] <;> omega
              · obtain rfl : k = M.length := by omega
                rw [List.take_length]
                have hsp : M.foldl (fun s x => Fl.addF s (Fl.partF mn (Fl.fl M.length) x)) 0 = Fl.spreadF M := by unfold Fl.spreadF; rw [hmn]
                rw [hsp]
                clear hrun
                go_wp2
                exact bodyPost_ret (v := .tuple #[.float .f64 mn, .float .f64 (Fl.spreadF M), .int .i64 M.length]) (by simp [results, Try.results8, go_sem]) rfl ⟨by rw [HQ.out.1, HQ.out.2.1, HQ.out.2.2], FW.out⟩
end Go.Proofs.Ytkdnplebgmmclaa
/- What the example's facts come to, plainly. -/
namespace Go.Proofs.Ytkdnplebgmmclaa
open Go.RowKit
set_option linter.unusedSimpArgs false
set_option linter.unusedVariables false

def eB : ByteArray := ⟨#[101]⟩
def nV (n : Int) : V := ⟨1, n, ⟨#[]⟩⟩
def exF : List Fc := [⟨eB, [nV 1, nV 2]⟩, ⟨eB, [nV 1, nV 4]⟩]
theorem ex_sort : sortU cmpF exF = exF := by decide +kernel
theorem ex_sizes : sizesOf exF = [⟨eB, 2, [1, 2]⟩] := by decide +kernel
theorem ex_nums : nums exF eB 1 = [2, 4] := by decide +kernel
theorem ex_mean : mOf [2, 4] = 4613937818241073152 := by decide +kernel
theorem ex_spread : sOf [2, 4] = 4607182418800017408 := by decide +kernel
end Go.Proofs.Ytkdnplebgmmclaa
/- EstimateMean's facts, plainly: what stands in their columns; float comparisons. No program. -/
namespace Go.Proofs.Ytkdnplebgmmclaa
open Go.RowKit
set_option linter.unusedSimpArgs false
set_option linter.unusedVariables false

def fB : ByteArray := ⟨#[102]⟩
def eF (g : Nat → Int) (k : Nat) : Fc := ⟨eB, [nV k, nV (g k)]⟩
def fF (k : Nat) : Fc := ⟨fB, [nV k, nV k]⟩
def aL (h : Nat → Fc) : Nat → List Fc
  | 0 => []
  | k + 1 => aL h k ++ [h k]
def bL (g : Nat → Int) : Nat → List Fc
  | 0 => []
  | k + 1 => [eF g k, fF k] ++ bL g k
theorem aL_len (h : Nat → Fc) : ∀ n, (aL h n).length = n
  | 0 => rfl
  | n + 1 => by rw [aL, List.length_append, aL_len h n]; rfl
theorem bL_len (g : Nat → Int) : ∀ n, (bL g n).length = 2 * n
  | 0 => rfl
  | n + 1 => by rw [bL, List.length_append, bL_len g n]; simp; omega
theorem aL_mem (h : Nat → Fc) : ∀ n f, f ∈ aL h n ↔ ∃ k, k < n ∧ f = h k
  | 0, f => by simp [aL]
  | n + 1, f => by
    rw [aL, List.mem_append, aL_mem h n, List.mem_singleton]
    constructor
    · rintro (⟨k, hk, rfl⟩ | rfl)
      · exact ⟨k, by omega, rfl⟩
      · exact ⟨n, by omega, rfl⟩
    · rintro ⟨k, hk, rfl⟩
      by_cases e : k = n
      · subst e; exact .inr rfl
      · exact .inl ⟨k, by omega, rfl⟩
theorem bL_mem (g : Nat → Int) : ∀ n f, f ∈ bL g n ↔ f ∈ aL (eF g) n ++ aL fF n
  | 0, f => by simp [bL, aL]
  | n + 1, f => by
    rw [bL, aL, aL, List.mem_append, bL_mem g n]
    simp only [List.mem_append, List.mem_cons, List.not_mem_nil, or_false, List.mem_singleton]
    constructor
    · rintro ((h | h) | (h | h)) <;> simp [h]
    · rintro ((h | h) | (h | h)) <;> simp [h]
theorem cmpI_lt {a b : Int} (h : a < b) : cmpI a b = -1 := by unfold cmpI; simp [h]
theorem cmpI_self (a : Int) : cmpI a a = 0 := by unfold cmpI; simp
theorem cmpV_nV {j k : Int} (h : j < k) : cmpV (nV j) (nV k) < 0 := by
  unfold cmpV nV
  simp [firstNZ, cmpI_self, cmpI_lt h]
theorem cmpF_col {p : ByteArray} {j k : Int} {x y : V} (h : j < k) : cmpF ⟨p, [nV j, x]⟩ ⟨p, [nV k, y]⟩ < 0 := by
  have h1 : cmpS p p = 0 := (totS.eq0 p p).2 rfl
  have h2 : cmpT [nV j, x] [nV k, y] < 0 := by
    unfold cmpT
    have := cmpV_nV h
    rw [if_pos (by omega)]; exact this
  unfold cmpF
  simp only [firstNZ, h1]
  simp
  split <;> omega
theorem cmp_ef (a b : List V) : cmpF ⟨eB, a⟩ ⟨fB, b⟩ < 0 := by
  have h1 : cmpS eB fB = -1 := by decide +kernel
  unfold cmpF
  simp only [firstNZ, h1]
  simp
theorem aL_up {h : Nat → Fc} (hh : ∀ j k : Nat, j < k → cmpF (h j) (h k) < 0) : ∀ n, Up cmpF (aL h n)
  | 0 => List.Pairwise.nil
  | n + 1 => (aL_up hh n).snoc fun y hy => by
    obtain ⟨j, hj, rfl⟩ := (aL_mem h n y).1 hy
    exact hh j n hj
theorem e_up (g : Nat → Int) : ∀ j k : Nat, j < k → cmpF (eF g j) (eF g k) < 0 := fun j k h => cmpF_col (by omega)
theorem f_up : ∀ j k : Nat, j < k → cmpF (fF j) (fF k) < 0 := fun j k h => cmpF_col (by omega)
theorem sort_a (g : Nat → Int) (n : Nat) : sortU cmpF (aL (eF g) n) = aL (eF g) n :=
  (UpOf.eq (tot_of ordF) ⟨aL_up (e_up g) n, fun _ => Iff.rfl⟩).symm
theorem sort_b (g : Nat → Int) (n : Nat) : sortU cmpF (bL g n) = aL (eF g) n ++ aL fF n := by
  refine (UpOf.eq (tot_of ordF) ⟨List.pairwise_append.2 ⟨aL_up (e_up g) n, aL_up f_up n, fun x hx y hy => ?_⟩, fun f => (bL_mem g n f).symm⟩).symm
  obtain ⟨j, _, rfl⟩ := (aL_mem _ n x).1 hx
  obtain ⟨k, _, rfl⟩ := (aL_mem _ n y).1 hy
  exact cmp_ef _ _
theorem num_e (g : Nat → Int) (k : Nat) : numAt eB 1 (eF g k) = some (g k) := by
  refine numAt_some (f := eF g k) (q := 1) rfl rfl (by simp [eF]) rfl ?_
  show chk 1 (g k) ⟨#[]⟩ = 0
  unfold chk
  rw [if_pos ⟨by decide, by decide +kernel⟩]
theorem num_f (k : Nat) : numAt eB 1 (fF k) = none := numAt_none fun h => absurd (show fB = eB from h.1) (by decide)
theorem nums_a (g : Nat → Int) : ∀ n, nums (aL (eF g) n) eB 1 = (List.range n).map g
  | 0 => rfl
  | n + 1 => by rw [aL, nums_snoc, nums_a g n, num_e, List.range_succ, List.map_append]; rfl
theorem nums_f : ∀ n, nums (aL fF n) eB 1 = []
  | 0 => rfl
  | n + 1 => by rw [aL, nums_snoc, nums_f n, num_f]; rfl
theorem nums_b (g : Nat → Int) (n : Nat) : nums (sortU cmpF (bL g n)) eB 1 = (List.range n).map g := by
  rw [sort_b]
  have h1 := nums_a g n
  have h2 := nums_f n
  unfold nums at h1 h2 ⊢
  rw [List.filterMap_append, h1, h2, List.append_nil]
theorem range_get (l : List Int) : (List.range l.length).map (fun k => l.getD k 0) = l := by
  refine List.ext_getElem (by simp) fun i h1 h2 => ?_
  simp only [List.getElem_map, List.getElem_range]
  simp [List.getD, h2]
theorem neg_word {s : Bool} {u : Nat} (hu : u < 2 ^ 63) : Fl.D.word s u ^^^ 2 ^ 63 = Fl.D.word (!s) u := by
  have h1 : u ^^^ 2 ^ 63 = 2 ^ 63 + u := by
    have h2 : 2 ^ 63 + u = 2 ^ 63 ||| u := by
      have := Nat.two_pow_add_eq_or_of_lt hu 1
      simpa using this
    rw [h2]
    refine Nat.eq_of_testBit_eq fun j => ?_
    rw [Nat.testBit_xor, Nat.testBit_or, Nat.testBit_two_pow]
    by_cases hj : 63 = j
    · subst hj; rw [Nat.testBit_lt_two_pow hu]; simp
    · simp [hj]
  cases s
  · show u ^^^ 2 ^ 63 = Fl.D.signWeight + u
    rw [Fl.D_sign, h1]
  · show (Fl.D.signWeight + u) ^^^ 2 ^ 63 = u
    rw [Fl.D_sign, ← h1, Nat.xor_assoc, Nat.xor_self, Nat.xor_zero]
end Go.Proofs.Ytkdnplebgmmclaa
/- Append to a list of the call's own: and the block is the old one or a new one. Generic; no program. -/
namespace Go.Proofs.Ytkdnplebgmmclaa
open Go.RowKit
set_option linter.unusedSimpArgs false
set_option linter.unusedVariables false

/-- The block is that of v, or a new one. -/
def SameOrNew (w : World) (v v' : Value) : Prop := v'.ownBlock = v.ownBlock ∨ ∀ k, v'.ownBlock = some k → w.heap.size ≤ k
theorem append_block {P : Program} {w w' : World} {v' : Value} (base : Nat) (t ty e : TypeId) (i : TypeInfo) (z : Value) (size bytes : Nat) (ht : P.underlying t = some (.slice e)) (hi : P.info? e = some i) (hz : i.zero = some z)
    (hsize : i.size = size) (hby : i.bytes = bytes) (hzs : z.cells.size = size) (hsz : 0 < size)
    (v : Value) (n : Nat) (xs : List Value) (hown : w.ownsRow base e size v n xs)
    (a : Addr) (m c : Nat) (news : List Value) (hl : news.length = m * size) (hnews : ∀ j u, news[j]? = some u → w.cell? (a.add j) = some u) (h1 : ∀ u ∈ news, u.oneCell' = true)
    (h63 : n + m ≤ maxLen) (hbytes : (n + m) * bytes ≤ 140737488355328) (hbase : base ≤ w.heap.size)
    (hr : (Builtin.append_ #[t, t] ty #[v, .slice (some a) m c]).run P w = .ok v' w') : SameOrNew w v v' := by
  subst hsize
  subst hby
  rcases hown.2 with ⟨rfl, rfl⟩ | ⟨g, cap, cur, rfl, hbg, hg, hnc, hcm, hcs, htake⟩
  · have hx : xs = [] := List.eq_nil_of_length_eq_zero (by simpa using hown.1)
    subst hx
    obtain ⟨v2, w2, r1, r2, _, _⟩ := run_append_own (P := P) (w := w) w.heap.size t ty e i z i.size i.bytes ht hi hz rfl rfl hzs hsz (.slice none 0 0) 0 [] (World.ownsRow_nil w _ e _) a m c news hl hnews h1 h63 hbytes (Nat.le_refl _)
    rw [hr] at r1
    injection r1 with e1 e2
    subst e1
    exact .inr fun k hk => (r2.lt k hk).1
  · by_cases hroom : n + m ≤ cap
    · have hfit : n * i.size + news.length ≤ cur.size := by rw [hl, hcs, ← Nat.add_mul]; exact Nat.mul_le_mul_right _ hroom
      have r1 := run_append_room (P := P) w t ty e i ht hi g n cap cur hg a m c news hl hnews h1 hroom hfit
      rw [hr] at r1
      injection r1 with e1 e2
      subst e1
      exact .inl rfl
    · have holds : ∀ j u, xs[j]? = some u → w.cell? ((⟨g, 0, none⟩ : Addr).add j) = some u := hown.cells (g := g) rfl
      have hsmall : n + m ≤ 9223372036854775807 := by simp only [maxLen] at h63; omega
      have r1 := run_append_grow (P := P) w t ty e i z ht hi hz ⟨g, 0, none⟩ n cap xs hown.1 holds a m c news hl hnews (by omega) (by omega) (growslice_fits (by omega) hbytes)
      rw [hr] at r1
      injection r1 with e1 e2
      subst e1
      exact .inr fun k hk => by
        have h9 : w.heap.size = k := by simpa [Value.ownBlock] using hk
        omega
section
variable {α : Type} {sz B M : Nat} {e : TypeId} {R : World → List Value → α → Prop} {w w' : World} {v u : Value} {xs ys : List α}
/-- APPEND, and whose the block is. -/
theorem run_append_listB {P : Program} (t ty : TypeId) (i : TypeInfo) (z : Value) (bytes : Nat) (ht : P.underlying t = some (.slice e)) (hi : P.info? e = some i) (hz : i.zero = some z) (hsize : i.size = sz) (hby : i.bytes = bytes) (hzs : z.cells.size = sz) (hsz : 0 < sz)
    (hR1 : ∀ w cs x, R w cs x → ∀ u ∈ cs, u.oneCell' = true) (hRk : ∀ w' cs (x : α), R w cs x → w.grownBy w' v.ownBlock → R w' cs x)
    (h : OwnL sz B e R w v xs) (hu : SlRep sz M R w u ys) (h63 : xs.length + ys.length ≤ maxLen) (hbytes : (xs.length + ys.length) * bytes ≤ 140737488355328) (hbase : B ≤ w.heap.size) :
    ∃ v' w', (Builtin.append_ #[t, t] ty #[v, u]).run P w = .ok v' w' ∧ OwnL sz B e R w' v' (xs ++ ys) ∧ w.grownBy w' v.ownBlock ∧ SameOrNew w v v' := by
  have h0 := h
  obtain ⟨css, h1, h2, h3⟩ := h
  obtain ⟨A, cap, rfl, hl, hm, hx⟩ := hu
  have hgrow : ∀ w', w.grownBy w' v.ownBlock → ∀ (i : Nat) (cs : List Value) (x : α), css[i]? = some cs → xs[i]? = some x → cs.length = sz ∧ R w' cs x := fun w' hg i cs x hi hx => ⟨(h2 i cs x hi hx).1, hRk _ _ _ (h2 i cs x hi hx).2 hg⟩
  cases A with
  | none =>
    have hy : ys = [] := by
      cases ys with
      | nil => rfl
      | cons y r => obtain ⟨_, _, _, hA, _⟩ := hx 0 y rfl; cases hA
    subst hy
    obtain ⟨A', cap', hv, hl', _⟩ := h0.rep.form
    subst hv
    exact ⟨_, w, run_append_none t ty i ht hi A' _ cap' cap hl' w, by rw [List.append_nil]; exact h0, World.grownBy.refl w _, .inl rfl⟩
  | some a =>
    obtain ⟨news, hnl, hnews⟩ := exists_list (p := fun k (cs : List Value) => ∃ y, ys[k]? = some y ∧ cs.length = sz ∧ R w cs y ∧ ∀ j c, cs[j]? = some c → w.cell? (a.add (k * sz + j)) = some c) ys.length fun k hk => by
      obtain ⟨b, off, cs, hA, b1, b2, b3⟩ := hx k _ (List.getElem?_eq_getElem hk)
      injection hA with hA
      subst hA
      refine ⟨cs, _, List.getElem?_eq_getElem hk, b1, b3, fun j c hj => ?_⟩
      rw [← b2 j c hj]
      rw [Addr.add_lit]
    have hs : ∀ (i : Nat) (cs : List Value), news[i]? = some cs → cs.length = sz := fun i cs hi => by obtain ⟨y, _, b1, _⟩ := hnews i cs hi; exact b1
    have hcells : ∀ j u, news.flatten[j]? = some u → w.cell? (a.add j) = some u := fun j u hj => by
      have hjl : j < news.length * sz := by
        have := (List.getElem?_eq_some_iff.1 hj).1
        rwa [flatten_len hs] at this
      have hk : j / sz < news.length := Nat.div_lt_of_lt_mul (by rw [Nat.mul_comm]; exact hjl)
      obtain ⟨y, _, b1, _, b2⟩ := hnews (j / sz) _ (List.getElem?_eq_getElem hk)
      have hr : j % sz < (news[j / sz]).length := by rw [b1]; exact Nat.mod_lt _ hsz
      have e1 := flatten_at hs (j / sz) (j % sz) _ _ (List.getElem?_eq_getElem hk) (List.getElem?_eq_getElem hr)
      have e2 := b2 (j % sz) _ (List.getElem?_eq_getElem hr)
      rw [show j / sz * sz + j % sz = j by rw [Nat.mul_comm]; exact Nat.div_add_mod j sz] at e1 e2
      rw [hj] at e1
      rw [e2, ← e1]
    have hone : ∀ u ∈ news.flatten, u.oneCell' = true := fun u hu => by
      obtain ⟨cs, hc, hu⟩ := List.mem_flatten.1 hu
      obtain ⟨k, hk⟩ := List.getElem?_of_mem hc
      obtain ⟨y, _, _, b3, _⟩ := hnews k cs hk
      exact hR1 _ _ _ b3 u hu
    obtain ⟨v', w', r1, r2, r3, _⟩ := run_append_own (P := P) (w := w) B t ty e i z sz bytes ht hi hz hsize hby hzs hsz v xs.length css.flatten h3 a ys.length cap news.flatten (by rw [flatten_len hs, hnl]) hcells hone h63 hbytes hbase
    have r4 := append_block B t ty e i z sz bytes ht hi hz hsize hby hzs hsz v xs.length css.flatten h3 a ys.length cap news.flatten (by rw [flatten_len hs, hnl]) hcells hone h63 hbytes hbase r1
    refine ⟨v', w', r1, ⟨css ++ news, by simp [h1, hnl], fun k cs x hk hx' => ?_, by rw [List.flatten_append, List.length_append]; exact r2⟩, r3, r4⟩
    rcases Nat.lt_or_ge k css.length with h' | h'
    · rw [List.getElem?_append_left h'] at hk
      rw [List.getElem?_append_left (by omega)] at hx'
      exact hgrow w' r3 k cs x hk hx'
    · rw [List.getElem?_append_right h'] at hk
      rw [List.getElem?_append_right (by omega)] at hx'
      obtain ⟨y, e1, b1, b3, _⟩ := hnews _ _ hk
      rw [h1, hx'] at e1
      obtain rfl := Option.some.inj e1
      exact ⟨b1, hRk _ _ _ b3 r3⟩
theorem wpList_append_LB {P : Program} {ops : Array Oper} {rest : List Oper} {o : Oper} {a : Act} {Q : Exit → Act → World → Prop} (hgd : Region.wanted o (yielded ops a.tmps) = true) (s x : Operand) (t : TypeId)
    (ho : o.op = .call { callee := .builtin .append, args := #[s, x], argTypes := #[t, t] }) (ht : P.underlying t = some (.slice e)) (z : Value) (bytes : Nat)
    (hinfo : (P.info? e).map (fun i => (i.zero, i.size, i.bytes)) = some (some z, sz, bytes)) (hzs : z.cells.size = sz) (hsz : 0 < sz)
    (hR1 : ∀ w cs x, R w cs x → ∀ u ∈ cs, u.oneCell' = true) (hRk : Keeps e R)
    (hs : a.eval s = v) (hx : a.eval x = u) (hown : OwnL sz B e R w v xs) (hu : SlRep sz M R w u ys) (h63 : xs.length + ys.length ≤ maxLen) (hbytes : (xs.length + ys.length) * bytes ≤ 140737488355328) (hbase : B ≤ w.heap.size)
    (h : ∀ v' w', OwnL sz B e R w' v' (xs ++ ys) → w.grownBy w' v.ownBlock → SameOrNew w v v' → wpList P ops Q rest (a.put o.dst v') w') : wpList P ops Q (o :: rest) a w := by
  obtain ⟨i, hi, hz, hs', hb⟩ := info_parts hinfo
  obtain ⟨v', w', hr, h2, h3, h4⟩ := run_append_listB t o.type i z bytes ht hi hz hs' hb hzs hsz hR1 (fun w' cs x hr hg => hRk w w' _ cs x hr hg hown.typed) hown hu h63 hbytes hbase
  refine wpList_step fun K hK => ?_
  rw [if_pos hgd]
  unfold Oper.wp
  have hrun : (execOp a.eval o).run P w = .ok (.value v') w' := by
    unfold execOp
    simp only [ho, resolve, invoke, builtin, Sem.run_bind, Sem.run_pure, Result.andThen_ok, List.map_toArray, List.map_cons, List.map_nil, hs, hx, hr]
  rw [hrun]
  exact hK _ _ (h v' w' h2 h3 h4)
end
end Go.Proofs.Ytkdnplebgmmclaa
/- A column more in a predicate's count; an entry more in the map of counts. -/
namespace Go.Proofs.Ytkdnplebgmmclaa
open Go.RowKit Go.WideMaps Go.Maps
set_option linter.unusedSimpArgs false
set_option linter.unusedVariables false

theorem wpList_mapNew {ops : Array Oper} {rest : List Oper} {o : Oper} {a : Act} {Q : Exit → Act → World → Prop} {w : World} {b : Nat} {l : List (ByteArray × Value)} {p : ByteArray} {v : Value} (hgd : Region.wanted o (yielded ops a.tmps) = true) (m y z : Operand)
    (ho : o.op = .mapUpdate 97 m y z) (hm : a.eval m = .map (some b)) (hy : a.eval y = .string p) (hz : a.eval z = v) (h : MapE strV w b l) (hok : ∀ q ∈ l, q.1.size ≤ maxLen) (hv : p.size ≤ maxLen) (hn : ∀ q ∈ l, q.1 ≠ p)
    (hk : ∀ w', MapE strV w' b (l ++ [(p, v)]) → w.grownBy w' (some b) → wpList Try.prog ops Q rest (a.put o.dst undef) w') : wpList Try.prog ops Q (o :: rest) a w := by
  obtain ⟨w', hr, h2, h3⟩ := h.push keyStr hok Try.underlying97 hv hn v
  refine wpList_of_skip hgd (w' := w') ?_ (hk w' h2 h3)
  have hy' : a.eval y = strV p := hy
  unfold execOp
  simp only [ho, hm, hy', hz, hr, Sem.run_bind, Sem.run_pure, Result.andThen_ok]
theorem mpOne (w : World) (n : Nat) : SlRep 1 1 RMp (w.alloc (.cells #[.map (some n)] tMp)) (.slice (some ⟨w.heap.size, 0, none⟩) 1 1) [n] :=
  ⟨_, 1, rfl, Nat.le_refl _, Nat.le_refl _, fun i y hy => by
    have hi : i = 0 := by
      have := (List.getElem?_eq_some_iff.1 hy).1
      simp at this; omega
    subst hi
    simp at hy
    subst hy
    refine ⟨w.heap.size, 0, _, rfl, rfl, fun j c hj => ?_, rfl⟩
    rw [show 0 + (0 * 1 + j) = j by omega]
    have h0 := heap_alloc_new w (.cells #[.map (some n)] tMp)
    simp only [World.cell?, h0]
    simpa using hj⟩
theorem mp_at {w : World} {A : Option Addr} {n cap M : Nat} {xs : List Nat} (h : SlRep 1 M RMp w (.slice A n cap) xs) {k : Nat} (hk : k < xs.length) :
    ∃ b off, A = some ⟨b, off, none⟩ ∧ w.cell? ⟨b, off + k, none⟩ = some (.map (some xs[k])) := by
  obtain ⟨A1, cap1, hv, _, _, h3⟩ := h
  obtain ⟨b, off, cs, hA, hl, hc, hr⟩ := h3 k _ (List.getElem?_eq_getElem hk)
  injection hv with hv _ _
  obtain rfl : cs = _ := hr
  refine ⟨b, off, hv.trans hA, ?_⟩
  have := hc 0 _ rfl
  rwa [Nat.mul_one, Nat.add_zero] at this
/-- A column more. -/
theorem EntI.grow {B : Nat} {w W w' : World} {blk : Nat} {rows : Int} {lv v' : Value} {cols : List Col} {nm : Nat} (h : EntI B w blk rows lv cols) (hf : Fut w W) (hm : MapE V.val W nm []) (hnm : w.heap.size ≤ nm) (hB : B ≤ w.heap.size)
    (o : OwnL 1 B tMp RMp w' v' (cols.map (·.1) ++ [nm])) (g : W.grownBy w' lv.ownBlock) (sn : SameOrNew W lv v') :
    EntI B (w'.setCell ⟨blk, 1, none⟩ v') blk rows v' (cols ++ [(nm, [])]) ∧ w'.cell? ⟨blk, 1, none⟩ = some lv ∧ w'.frozen? ⟨blk, 1, none⟩ = false ∧
      Only (fun k => efoot blk lv cols k ∨ w.heap.size ≤ k) w (w'.setCell ⟨blk, 1, none⟩ v') ∧ (∀ k, efoot blk v' (cols ++ [(nm, [])]) k → efoot blk lv cols k ∨ w.heap.size ≤ k) := by
  have hs := h.sep
  have hsz := hf.size
  have O1 : Only (fun k => lv.ownBlock = some k) w w' := (Only.fut hf).then (Only.grown g fun k hk => hk) (fun k hk hlt => by first | exact hk | exact .inl hk)
  have hlb : ∀ k, lv.ownBlock = some k → k < w.heap.size := fun k hk => (h.list.block k hk).2
  have hb := O1.keeps h.cell (fun e => (hs.1 _ e).1 rfl)
  have hmap : ∀ (i : Nat) (c : Col), (cols ++ [(nm, [])])[i]? = some c → MapE V.val w' c.1 (colE c.2) ∧ ∀ v ∈ c.2, v.ok := fun i c hi => by
    by_cases hl : i < cols.length
    · rw [List.getElem?_append_left hl] at hi
      exact ⟨(h.maps i c hi).1.kept (O1.block c.1 (h.maps i c hi).1.lt fun e => (hs.1 _ e).2 c (List.mem_of_getElem? hi) rfl), (h.maps i c hi).2⟩
    · rw [List.getElem?_append_right (by omega)] at hi
      have h1 := (List.getElem?_eq_some_iff.1 hi).1
      have e : i - cols.length = 0 := by simp at h1; omega
      rw [e] at hi
      simp at hi
      subst hi
      exact ⟨hm.grown g fun e => by have := hlb nm e.symm; omega, fun v hv => by cases hv⟩
  have hnd : ((cols ++ [(nm, [])] : List Col).map (·.1)).Nodup := by
    rw [List.map_append, List.nodup_append]
    refine ⟨h.nodup, by simp, fun a ha b hb e => ?_⟩
    simp at hb
    obtain ⟨c, hc, rfl⟩ := List.mem_map.1 ha
    obtain ⟨i, hi⟩ := List.mem_iff_getElem?.1 hc
    have := (h.maps i c hi).1.lt
    omega
  refine ⟨EntI.cols' hb (by rw [List.map_append]; exact o) hmap hnd ⟨h.low.1, fun c hc => ?_⟩, cell_at hb 1 _ rfl, free_at hb 1, (O1.mono fun k _ hk => .inl (.inr (.inl hk))).then (Only.set _ _ rfl) (fun k hk hlt => by
      obtain rfl : blk = k := hk
      exact .inl (.inl rfl)), fun k hk => ?_⟩
  · rcases List.mem_append.1 hc with hc | hc
    · exact h.low.2 c hc
    · simp at hc; subst hc; exact Nat.le_trans hB hnm
  · rcases hk with hk | hk | ⟨c, hc, rfl⟩
    · exact .inl (.inl hk)
    · rcases sn with e | e
      · exact .inl (.inr (.inl (e ▸ hk)))
      · exact .inr (by have := e k hk; omega)
    · rcases List.mem_append.1 hc with hc | hc
      · exact .inl (.inr (.inr ⟨c, hc, rfl⟩))
      · simp at hc; subst hc; exact .inr hnm
theorem stepC_put {α : Type} [DecidableEq α] {C : List (List α)} {q : Nat} (v : α) (hq : q < C.length) : stepC C q v = C.set q (addV C[q] v) := by
  unfold stepC; rw [if_pos hq]; simp [List.getD, hq]
theorem stepC_new {α : Type} [DecidableEq α] {C : List (List α)} (v : α) : stepC C C.length v = (C ++ [[]]).set C.length (addV [] v) := by
  unfold stepC; rw [if_neg (by omega)]
  simp [addV]
theorem stepA_snoc {α : Type} [DecidableEq α] : ∀ (l : List α) (C : List (List α)) (i : Nat) (v : α), stepA C i (l ++ [v]) = stepC (stepA C i l) (i + l.length) v
  | [], C, i, v => rfl
  | x :: l, C, i, v => by
    rw [List.cons_append, stepA, stepA, stepA_snoc l, List.length_cons, show i + 1 + l.length = i + (l.length + 1) by omega]
theorem foot_put {blk k i : Nat} {lv : Value} {cols : List Col} {c : Col} {l : List V} (hi : cols[i]? = some c) (h : efoot blk lv (cols.set i (c.1, l)) k) : efoot blk lv cols k := by
  rcases h with h | h | ⟨d, hd, rfl⟩
  · exact .inl h
  · exact .inr (.inl h)
  · rcases List.mem_or_eq_of_mem_set hd with hd | rfl
    · exact .inr (.inr ⟨d, hd, rfl⟩)
    · exact .inr (.inr ⟨c, List.mem_of_getElem? hi, rfl⟩)
theorem map_put {cols : List Col} {i : Nat} {c : Col} {l : List V} : (cols.set i (c.1, l)).map (·.2) = (cols.map (·.2)).set i l := by rw [List.map_set]
theorem boxV (w : World) (z : V) (t : TypeId) : (w.alloc (.cells #[.int .i8 z.k, .int .i64 z.n, .string z.s] t)).heap[w.heap.size]? = some (.cells #[.int .i8 z.k, .int .i64 z.n, .string z.s] t) := heap_alloc_new w _
end Go.Proofs.Ytkdnplebgmmclaa
/- Lists of sizes (api.Size) in memory. -/
namespace Go.Proofs.Ytkdnplebgmmclaa
open Go.RowKit
set_option linter.unusedSimpArgs false
set_option linter.unusedVariables false

def ints (l : List Nat) : List Int := l.map fun n : Nat => (n : Int)
theorem RI.one : ∀ (w : World) cs x, RI w cs x → ∀ u ∈ cs, u.oneCell' = true := fun w cs x h u hu => by
  obtain rfl : cs = _ := h
  simp only [List.mem_singleton] at hu
  subst hu; rfl
theorem RI.keeps {e : TypeId} : Keeps e RI := fun _ _ _ _ _ h _ _ => h
def RSz (B : Nat) (w : World) (cs : List Value) (x : Sz) : Prop := ∃ v, cs = [.string x.p, .int .i64 x.rows, v] ∧ OwnL 1 B 3 RI w v (ints x.ds)
theorem RSz.stays {B : Nat} : Stays (RSz B) := fun _ _ _ _ hf ⟨v, h1, h2⟩ => ⟨v, h1, h2.fut RI.stays hf⟩
theorem RSz.base {B B' : Nat} {w : World} {cs : List Value} {x : Sz} (h : RSz B w cs x) (hB : B' ≤ B) : RSz B' w cs x := by
  obtain ⟨v, h1, h2⟩ := h
  exact ⟨v, h1, h2.base hB⟩
theorem RSz.keeps {B : Nat} {e : TypeId} (hne : 3 ≠ e) : Keeps e (RSz B) := fun w w' row cs x ⟨v, h1, h2⟩ hg ht => ⟨v, h1, h2.kept (fun _ _ h => h) hg ht hne⟩
theorem RSz.one {B : Nat} : ∀ (w : World) cs x, RSz B w cs x → ∀ u ∈ cs, u.oneCell' = true := fun w cs x ⟨v, h1, h2⟩ u hu => by
  obtain ⟨A, cap, rfl, _⟩ := h2.rep.form
  subst h1
  simp only [List.mem_cons, List.not_mem_nil, or_false] at hu
  rcases hu with rfl | rfl | rfl <;> rfl
theorem infoSz : (Try.prog.info? 64).map (fun i => (i.zero, i.size, i.bytes)) = some (some (.agg #[.string ⟨#[]⟩, .int .i64 0, .slice none 0 0]), 3, 48) := by kernel_rfl
theorem infoIn : (Try.prog.info? 3).map (fun i => (i.zero, i.size, i.bytes)) = some (some (.int .i64 0), 1, 8) := by kernel_rfl
theorem szOne {B : Nat} {w : World} {v : Value} {x : Sz} (h : OwnL 1 B 3 RI w v (ints x.ds)) (e : TypeId) : SlRep 3 1 (RSz B) (w.alloc (.cells #[.string x.p, .int .i64 x.rows, v] e)) (.slice (some ⟨w.heap.size, 0, none⟩) 1 1) [x] :=
  ⟨_, 1, rfl, Nat.le_refl _, Nat.le_refl _, fun i y hy => by
    have hi : i = 0 := by
      have := (List.getElem?_eq_some_iff.1 hy).1
      simp at this; omega
    subst hi
    simp at hy
    subst hy
    refine ⟨w.heap.size, 0, [.string x.p, .int .i64 x.rows, v], rfl, rfl, fun j c hj => ?_, v, rfl, h.fut RI.stays (Fut.alloc w _)⟩
    rw [show 0 + (0 * 3 + j) = j by omega]
    have h0 := heap_alloc_new w (.cells #[.string x.p, .int .i64 x.rows, v] e)
    simp only [World.cell?, h0]
    simpa using hj⟩
theorem inOne (w : World) (n : Int) (e : TypeId) : SlRep 1 1 RI (w.alloc (.cells #[.int .i64 n] e)) (.slice (some ⟨w.heap.size, 0, none⟩) 1 1) [n] :=
  ⟨_, 1, rfl, Nat.le_refl _, Nat.le_refl _, fun i y hy => by
    have hi : i = 0 := by
      have := (List.getElem?_eq_some_iff.1 hy).1
      simp at this; omega
    subst hi
    simp at hy
    subst hy
    refine ⟨w.heap.size, 0, _, rfl, rfl, fun j c hj => ?_, rfl⟩
    rw [show 0 + (0 * 1 + j) = j by omega]
    have h0 := heap_alloc_new w (.cells #[.int .i64 n] e)
    simp only [World.cell?, h0]
    simpa using hj⟩
theorem in_at {w : World} {A : Option Addr} {n cap M : Nat} {xs : List Int} (h : SlRep 1 M RI w (.slice A n cap) xs) {k : Nat} (hk : k < xs.length) :
    ∃ b off, A = some ⟨b, off, none⟩ ∧ w.cell? ⟨b, off + k, none⟩ = some (.int .i64 xs[k]) := by
  obtain ⟨A1, cap1, hv, _, _, h3⟩ := h
  obtain ⟨b, off, cs, hA, hl, hc, hr⟩ := h3 k _ (List.getElem?_eq_getElem hk)
  injection hv with hv _ _
  obtain rfl : cs = _ := hr
  refine ⟨b, off, hv.trans hA, ?_⟩
  have := hc 0 _ rfl
  rwa [Nat.mul_one, Nat.add_zero] at this
theorem sz_at {B B' : Nat} {e : TypeId} {w : World} {A : Option Addr} {n cap : Nat} {X : List Sz} (h : OwnL 3 B e (RSz B') w (.slice A n cap) X) {k : Nat} (hk : k < X.length) :
    ∃ b off A' cap', A = some ⟨b, off, none⟩ ∧ w.cell? ⟨b, off + k * 3, none⟩ = some (.string (X[k]).p) ∧ w.cell? ⟨b, off + k * 3 + 1, none⟩ = some (.int .i64 (X[k]).rows) ∧ w.cell? ⟨b, off + k * 3 + 2, none⟩ = some (.slice A' (X[k]).ds.length cap') ∧ OwnL 1 B' 3 RI w (.slice A' (X[k]).ds.length cap') (ints (X[k]).ds) := by
  obtain ⟨A1, cap1, hv, _, _, h3⟩ := h.rep
  obtain ⟨b, off, cs, hA, hl, hc, u, hr, hu⟩ := h3 k _ (List.getElem?_eq_getElem hk)
  injection hv with hv _ _
  subst hr
  obtain ⟨A', cap', rfl, h4, h5⟩ := hu.rep.form
  have hln : (ints (X[k]).ds).length = (X[k]).ds.length := List.length_map _
  rw [hln] at hu hc
  exact ⟨b, off, A', cap', hv.trans hA, hc 0 _ rfl, hc 1 _ rfl, hc 2 _ rfl, hu⟩
theorem OwnSz.base {B B' : Nat} {e : TypeId} {w : World} {v : Value} {xs : List Sz} (h : OwnL 3 B e (RSz B) w v xs) (hB : B' ≤ B) : OwnL 3 B' e (RSz B') w v xs := by
  obtain ⟨css, h1, h2, h3⟩ := h.base hB
  exact ⟨css, h1, fun i cs x hi hx => ⟨(h2 i cs x hi hx).1, (h2 i cs x hi hx).2.base hB⟩, h3⟩
end Go.Proofs.Ytkdnplebgmmclaa
/- The conditions of the contracts on slices.Sorted(maps.Keys(m)) at this dump, out of the kit's shelf (lay-plain.mjs), in plain words. -/
namespace Go.Proofs
open Go.Shelf
def Try.keys33_ren : Go.Shelf.Ren := ⟨fun | 7 => 33 | 10 => 57 | n => n, fun | 23 => 97 | 26 => 9 | 3 => 98 | 28 => 106 | 0 => 0 | 27 => 105 | 33 => 128 | 4 => 4 | n => n, fun | n => n⟩
theorem Try.keys33 : Go.Proofs.SlLaysZ.n7 Try.prog Try.keys33_ren := {
  mixed := by kernel_rfl
  f7 := ⟨Try.f33.name, by decide, Try.func33.trans (congrArg some (by kernel_rfl))⟩
  f10 := ⟨Try.f57.name, by decide, Try.func57.trans (congrArg some (by kernel_rfl))⟩
  t0 := Try.underlying0
  a0 := Try.isAgg0
  z0 := Try.sizeOf0
  v0 := Try.zeroValue0
  t4 := Try.underlying4
  a4 := Try.isAgg4
  z4 := Try.sizeOf4
  v4 := Try.zeroValue4
  t23 := Try.underlying97
  a23 := Try.isAgg97
  z23 := Try.sizeOf97
  v23 := Try.zeroValue97
  t26 := Try.underlying9
  a26 := Try.isAgg9
  z26 := Try.sizeOf9
  v26 := Try.zeroValue9
  t27 := Try.underlying105
  a27 := Try.isAgg105
  z27 := Try.sizeOf105
  v27 := Try.zeroValue105
  t28 := Try.underlying106
  a28 := Try.isAgg106
  z28 := Try.sizeOf106
  v28 := Try.zeroValue106
  t33 := Try.underlying128
  a33 := Try.isAgg128
  z33 := Try.sizeOf128
  v33 := Try.zeroValue128 }
def Try.sorted32_ren : Go.Shelf.Ren := ⟨fun | 6 => 32 | 8 => 55 | 9 => 56 | 11 => 77 | 13 => 59 | 12 => 78 | 23 => 87 | 24 => 88 | 14 => 100 | 15 => 101 | 16 => 102 | 17 => 103 | 18 => 104 | 19 => 105 | 20 => 106 | 21 => 107 | 22 => 108 | 25 => 121 | 26 => 110 | 27 => 111 | 28 => 122 | 29 => 123 | 30 => 124 | 31 => 132 | n => n, fun | 26 => 9 | 28 => 106 | 24 => 87 | 0 => 0 | 3 => 3 | 37 => 147 | 48 => 178 | 50 => 180 | 4 => 4 | 40 => 172 | 39 => 171 | 45 => 163 | 5 => 5 | 9 => 9 | 51 => 195 | 55 => 199 | 57 => 209 | 58 => 210 | 33 => 128 | n => n, fun | n => n⟩
theorem Try.sorted32 : Go.Proofs.SlLaysZ.n6 Try.prog Try.sorted32_ren := {
  mixed := by kernel_rfl
  f6 := ⟨Try.f32.name, by decide, Try.func32.trans (congrArg some (by kernel_rfl))⟩
  f8 := ⟨Try.f55.name, by decide, Try.func55.trans (congrArg some (by kernel_rfl))⟩
  f11 := ⟨Try.f77.name, by decide, Try.func77.trans (congrArg some (by kernel_rfl))⟩
  t0 := Try.underlying0
  a0 := Try.isAgg0
  z0 := Try.sizeOf0
  v0 := Try.zeroValue0
  t24 := Try.underlying87
  a24 := Try.isAgg87
  z24 := Try.sizeOf87
  v24 := Try.zeroValue87
  t26 := Try.underlying9
  a26 := Try.isAgg9
  z26 := Try.sizeOf9
  v26 := Try.zeroValue9
  t28 := Try.underlying106
  a28 := Try.isAgg106
  z28 := Try.sizeOf106
  v28 := Try.zeroValue106
  i26 := by kernel_rfl }
def Try.sort56_ren : Go.Shelf.Ren := ⟨fun | 6 => 56 | 8 => 59 | 9 => 78 | 19 => 87 | 20 => 88 | 21 => 100 | 22 => 101 | 23 => 102 | 24 => 103 | 25 => 104 | 26 => 105 | 27 => 106 | 28 => 107 | 29 => 108 | 36 => 121 | 31 => 110 | 32 => 111 | 37 => 122 | 38 => 123 | 39 => 124 | 41 => 132 | n => n, fun | 27 => 87 | 29 => 9 | 3 => 3 | 32 => 147 | 26 => 87 | 0 => 0 | 44 => 178 | 46 => 180 | 4 => 4 | 36 => 172 | 35 => 171 | 41 => 163 | 5 => 5 | 9 => 9 | 53 => 195 | 57 => 199 | 63 => 209 | 64 => 210 | n => n, fun | n => n⟩
theorem Try.sort56 : Go.Proofs.SlLaysM.n6 Try.prog Try.sort56_ren := {
  mixed := by kernel_rfl
  f6 := ⟨Try.f56.name, by decide, Try.func56.trans (congrArg some (by kernel_rfl))⟩
  f8 := Try.func59.trans (congrArg some (by kernel_rfl))
  f9 := ⟨Try.f78.name, by decide, Try.func78.trans (congrArg some (by kernel_rfl))⟩
  f19 := Try.func87.trans (congrArg some (by kernel_rfl))
  f20 := Try.func88.trans (congrArg some (by kernel_rfl))
  f21 := ⟨Try.f100.name, by decide, Try.func100.trans (congrArg some (by kernel_rfl))⟩
  f22 := ⟨Try.f101.name, by decide, Try.func101.trans (congrArg some (by kernel_rfl))⟩
  f23 := ⟨Try.f102.name, by decide, Try.func102.trans (congrArg some (by kernel_rfl))⟩
  f24 := ⟨Try.f103.name, by decide, Try.func103.trans (congrArg some (by kernel_rfl))⟩
  f25 := ⟨Try.f104.name, by decide, Try.func104.trans (congrArg some (by kernel_rfl))⟩
  f26 := ⟨Try.f105.name, by decide, Try.func105.trans (congrArg some (by kernel_rfl))⟩
  f27 := ⟨Try.f106.name, by decide, Try.func106.trans (congrArg some (by kernel_rfl))⟩
  f28 := ⟨Try.f107.name, by decide, Try.func107.trans (congrArg some (by kernel_rfl))⟩
  f29 := ⟨Try.f108.name, by decide, Try.func108.trans (congrArg some (by kernel_rfl))⟩
  f31 := Try.func110.trans (congrArg some (by kernel_rfl))
  f32 := Try.func111.trans (congrArg some (by kernel_rfl))
  f36 := ⟨Try.f121.name, by decide, Try.func121.trans (congrArg some (by kernel_rfl))⟩
  f37 := ⟨Try.f122.name, by decide, Try.func122.trans (congrArg some (by kernel_rfl))⟩
  f38 := ⟨Try.f123.name, by decide, Try.func123.trans (congrArg some (by kernel_rfl))⟩
  f39 := ⟨Try.f124.name, by decide, Try.func124.trans (congrArg some (by kernel_rfl))⟩
  f41 := ⟨Try.f132.name, by decide, Try.func132.trans (congrArg some (by kernel_rfl))⟩
  t0 := Try.underlying0
  a0 := Try.isAgg0
  z0 := Try.sizeOf0
  v0 := Try.zeroValue0
  t3 := Try.underlying3
  a3 := Try.isAgg3
  z3 := Try.sizeOf3
  v3 := Try.zeroValue3
  t4 := Try.underlying4
  a4 := Try.isAgg4
  z4 := Try.sizeOf4
  v4 := Try.zeroValue4
  t5 := Try.underlying5
  a5 := Try.isAgg5
  z5 := Try.sizeOf5
  v5 := Try.zeroValue5
  t9 := Try.underlying9
  a9 := Try.isAgg9
  z9 := Try.sizeOf9
  v9 := Try.zeroValue9
  t26 := Try.underlying87
  a26 := Try.isAgg87
  z26 := Try.sizeOf87
  v26 := Try.zeroValue87
  t27 := Try.underlying87
  a27 := Try.isAgg87
  z27 := Try.sizeOf87
  v27 := Try.zeroValue87
  t29 := Try.underlying9
  a29 := Try.isAgg9
  z29 := Try.sizeOf9
  v29 := Try.zeroValue9
  t32 := Try.underlying147
  a32 := Try.isAgg147
  z32 := Try.sizeOf147
  v32 := Try.zeroValue147
  t35 := Try.underlying171
  a35 := Try.isAgg171
  z35 := Try.sizeOf171
  v35 := Try.zeroValue171
  t36 := Try.underlying172
  a36 := Try.isAgg172
  z36 := Try.sizeOf172
  v36 := Try.zeroValue172
  t41 := Try.underlying163
  a41 := Try.isAgg163
  z41 := Try.sizeOf163
  v41 := Try.zeroValue163
  t44 := Try.underlying178
  a44 := Try.isAgg178
  z44 := Try.sizeOf178
  v44 := Try.zeroValue178
  t46 := Try.underlying180
  a46 := Try.isAgg180
  z46 := Try.sizeOf180
  v46 := Try.zeroValue180
  t53 := Try.underlying195
  a53 := Try.isAgg195
  z53 := Try.sizeOf195
  v53 := Try.zeroValue195
  t57 := Try.underlying199
  a57 := Try.isAgg199
  z57 := Try.sizeOf199
  v57 := Try.zeroValue199
  t63 := Try.underlying209
  a63 := Try.isAgg209
  z63 := Try.sizeOf209
  v63 := Try.zeroValue209
  t64 := Try.underlying210
  a64 := Try.isAgg210
  z64 := Try.sizeOf210
  v64 := Try.zeroValue210 }
def Try.keys75_ren : Go.Shelf.Ren := ⟨fun | 7 => 75 | 10 => 99 | n => n, fun | 23 => 132 | 26 => 9 | 3 => 87 | 28 => 106 | 0 => 0 | 27 => 105 | 33 => 128 | 4 => 4 | n => n, fun | n => n⟩
theorem Try.keys75 : Go.Proofs.SlLaysZ.n7 Try.prog Try.keys75_ren := {
  mixed := by kernel_rfl
  f7 := ⟨Try.f75.name, by decide, Try.func75.trans (congrArg some (by kernel_rfl))⟩
  f10 := ⟨Try.f99.name, by decide, Try.func99.trans (congrArg some (by kernel_rfl))⟩
  t0 := Try.underlying0
  a0 := Try.isAgg0
  z0 := Try.sizeOf0
  v0 := Try.zeroValue0
  t4 := Try.underlying4
  a4 := Try.isAgg4
  z4 := Try.sizeOf4
  v4 := Try.zeroValue4
  t23 := Try.underlying132
  a23 := Try.isAgg132
  z23 := Try.sizeOf132
  v23 := Try.zeroValue132
  t26 := Try.underlying9
  a26 := Try.isAgg9
  z26 := Try.sizeOf9
  v26 := Try.zeroValue9
  t27 := Try.underlying105
  a27 := Try.isAgg105
  z27 := Try.sizeOf105
  v27 := Try.zeroValue105
  t28 := Try.underlying106
  a28 := Try.isAgg106
  z28 := Try.sizeOf106
  v28 := Try.zeroValue106
  t33 := Try.underlying128
  a33 := Try.isAgg128
  z33 := Try.sizeOf128
  v33 := Try.zeroValue128 }
end Go.Proofs
