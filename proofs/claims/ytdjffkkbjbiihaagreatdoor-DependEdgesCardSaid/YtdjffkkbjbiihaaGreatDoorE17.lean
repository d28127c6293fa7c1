/- Parts. -/
import Derived.RangeFuncBox
import Derived.Test.YtdjffkkbjbiihaaGreatDoorE16
set_option linter.unusedSimpArgs false
set_option linter.unusedVariables false
namespace Go.Proofs.YtdjffkkbjbiihaaGreatDoor.On
open Go.RowKit
abbrev Mut.swap (p q m n : Nat) (B C R : World → World → Prop) (hB : ∀ {a b : World}, Fut a b → B a b) (hC : ∀ {a b : World}, Fut a b → C a b) (hf : ∀ {a b : World}, Fut a b → R a b)
  (tB : ∀ {a b c : World}, B a b → B b c → B a c) (ht : ∀ {a b c : World}, R a b → R b c → R a c) : Mut where
 H i := if i = p ∨ i = q ∨ i = m then Fut else if i = n then B else R
 A i := if i = m then C else if i = n then Fut else R
 G := R
 D i j := (i == n && j == m) || ((i == m || i == n) && (j == p || j == q))
 hfut := fun {i} {a b} h => by
  show (if i = p ∨ i = q ∨ i = m then Fut else if i = n then B else R) a b
  split
  ·exact h
  ·split
   ·exact hB h
   ·exact hf h
 afut := fun {i} {a b} h => by
  show (if i = m then C else if i = n then Fut else R) a b
  split
  ·exact hC h
  ·split
   ·exact h
   ·exact hf h
 htrans := fun {i} {a b c} h k => by
  show (if i = p ∨ i = q ∨ i = m then Fut else if i = n then B else R) a c
  change (if i = p ∨ i = q ∨ i = m then Fut else if i = n then B else R) a b at h
  change (if i = p ∨ i = q ∨ i = m then Fut else if i = n then B else R) b c at k
  by_cases e : i = p ∨ i = q ∨ i = m
  ·rw [if_pos e] at h k ⊢; exact Fut.trans h k
  ·rw [if_neg e] at h k ⊢
   by_cases e2 : i = n
   ·rw [if_pos e2] at h k ⊢; exact tB h k
   ·rw [if_neg e2] at h k ⊢; exact ht h k
 gfut := hf
 gtrans := ht
 jm := 0
 js := 0
 J _ _ := True
 jkeep _ _ := trivial
section
variable {p q m n : Nat} {B C R : World → World → Prop} {hB : ∀ {a b : World}, Fut a b → B a b} {hC : ∀ {a b : World}, Fut a b → C a b} {hf : ∀ {a b : World}, Fut a b → R a b}
  {tB : ∀ {a b c : World}, B a b → B b c → B a c} {ht : ∀ {a b c : World}, R a b → R b c → R a c} {w w' : World}
theorem Eff.swap1 (h1 : B w w') (h2 : R w w') : @Eff (Mut.swap p q m n B C R hB hC hf tB ht) m w w' :=
 ⟨⟨fun j hj hd => (by
   show (if j = p ∨ j = q ∨ j = m then Fut else if j = n then B else R) w w'
   have hd' : ((m == n && j == m) || ((m == m || m == n) && (j == p || j == q))) = false := hd
   have hn : ¬ (j = p ∨ j = q ∨ j = m) := fun e => by
    rcases e with e | e | e
    ·simp [e] at hd'
    ·simp [e] at hd'
    ·exact hj e
   rw [if_neg hn]
   split
   ·exact h1
   ·exact h2), fun j hj hd => (by
   show (if j = m then C else if j = n then Fut else R) w w'
   have hjn : j ≠ n := fun e => by
    have hd' : ((j == n && m == m) || ((j == m || j == n) && (m == p || m == q))) = false := hd
    simp [e] at hd'
   rw [if_neg hj, if_neg hjn]
   exact h2)⟩, h2⟩
theorem Eff.swap2 (h1 : C w w') (h2 : R w w') : @Eff (Mut.swap p q m n B C R hB hC hf tB ht) n w w' :=
 ⟨⟨fun j hj hd => (by
   show (if j = p ∨ j = q ∨ j = m then Fut else if j = n then B else R) w w'
   have hd' : ((n == n && j == m) || ((n == m || n == n) && (j == p || j == q))) = false := hd
   have hn : ¬ (j = p ∨ j = q ∨ j = m) := fun e => by
    rcases e with e | e | e <;> simp [e] at hd'
   rw [if_neg hn, if_neg hj]
   exact h2), fun j hj _ => (by
   show (if j = m then C else if j = n then Fut else R) w w'
   rw [if_neg hj]
   split
   ·exact h1
   ·exact h2)⟩, h2⟩
theorem swap_dep {ops : Array Oper} (h : (match ops[n]? with | some o => dep o m && dep o p && dep o q | none => false) = true) (h' : (match ops[m]? with | some o => dep o p && dep o q | none => false) = true) : ∀ i j o, ops[i]? = some o → @Mut.D (Mut.swap p q m n B C R hB hC hf tB ht) i j = true → dep o j = true := fun i j o ho hd => by
 have hd' : ((i == n && j == m) || ((i == m || i == n) && (j == p || j == q))) = true := hd
 simp only [Bool.or_eq_true, Bool.and_eq_true, beq_iff_eq] at hd'
 rcases hd' with ⟨rfl, rfl⟩ | ⟨rfl | rfl, rfl | rfl⟩
 ·rw [ho] at h; simp only [Bool.and_eq_true] at h; exact h.1.1
 ·rw [ho] at h'; simp only [Bool.and_eq_true] at h'; exact h'.1
 ·rw [ho] at h'; simp only [Bool.and_eq_true] at h'; exact h'.2
 ·rw [ho] at h; simp only [Bool.and_eq_true] at h; exact h.1.2
 ·rw [ho] at h; simp only [Bool.and_eq_true] at h; exact h.2
end
section
variable [Mut] {P : Program} {ops : Array Oper} {w0 : World} {K : Act → World → Prop} {i : Nat} {o : Oper} {r : List Oper} {sps : List Sp} {a : Act} {known : List (Nat × (World → Prop))}
theorem Run.mutSR {S : Value → World → Prop} (hj : NoJ i) (hg : Region.wanted o (yielded ops a.tmps) = true) (hm : ∀ v w w', Mut.A i w w' → S v w → S v w')
  (h : ∀ w, Mut.H i w0 w → Facts known o w → ∃ w', (execOp a.eval o).run P w = .ok .skip w' ∧ Eff i w w' ∧ S undef w') (k : ∀ v, Run P ops w0 K (i + 1) r sps (a.put o.dst v) (known ++ [(i, S v)])) :
  Run P ops w0 K i (o :: r) (.rel S :: sps) a known := by
 refine ⟨hm, fun w hw hf => ?_, k⟩
 unfold givesG
 rw [if_pos hg]
 unfold gives
 obtain ⟨w', he, h1, h2⟩ := h w hw hf
 rw [he]
 exact ⟨h1.j hj, h2⟩
end
end Go.Proofs.YtdjffkkbjbiihaaGreatDoor.On
namespace Go.Proofs.YtdjffkkbjbiihaaGreatDoor
open Go.RowKit Go.WideMaps Go.Maps
theorem infoRuT : (Tryz.prog.info? 80).map (·.size) = some 3 := by kernel_rfl
theorem SlU.len {g : Nat} {w : World} {v : Value} {ys : List Ru} (h : SlU g w v ys) : ys.length ≤ 100000000 := h.2.1
theorem SlU.lt {g : Nat} {w : World} {v : Value} {ys : List Ru} (h : SlU g w v ys) : g < w.heap.size := by
 obtain ⟨_, _, arr, h3, _⟩ := h
 exact (Array.getElem?_eq_some_iff.1 h3).1
theorem Only.back {S : Nat → Prop} {w a b : World} (h1 : Only S w a) (h2 : Only S w b) (hs : a.heap.size = w.heap.size) : Only S a b :=
 ⟨h2.os.trans h1.os.symm, h2.tape.trans h1.tape.symm, h2.output.trans h1.output.symm, by rw [hs]; exact h2.size, fun k hk hn => by
  rw [hs] at hk
  rw [h2.block k hk hn, h1.block k hk hn]⟩
theorem SlU.cong {g : Nat} {w w' : World} {v : Value} {xs : List Ru} (h : SlU g w v xs) (hg : w'.heap[g]? = w.heap[g]?) (hO : Only (fun k => k = g) w w') : SlU g w' v xs := by
 obtain ⟨rfl, h2, arr, h3, h4, h5⟩ := h
 exact ⟨rfl, h2, arr, hg.trans h3, h4, fun i x hx => by
  obtain ⟨cs, a, b, c⟩ := h5 i x hx
  exact ⟨cs, a, b, c.only hO⟩⟩
theorem setCells_same {w : World} {g off : Nat} {cs : List Value} {arr arr1 : Array Value} {t : TypeId} (h : w.heap[g]? = some (.cells arr t (0, 0))) (hs : ∀ j, arr1[j]? = if off ≤ j ∧ j < off + cs.length ∧ j < arr.size then cs[j - off]? else arr[j]?) :
  ∃ w', w.setCells g off cs = w' ∧ w'.heap[g]? = some (.cells arr1 t (0, 0)) ∧ Only (fun k => k = g) w w' ∧ g < w'.heap.size := by
 obtain ⟨arr', e1, e2, e3⟩ := setCells_put cs off w arr h
 have e : arr' = arr1 := Array.ext_getElem? fun j => by rw [e3, hs]
 have hl := (Array.getElem?_eq_some_iff.1 h).1
 refine ⟨_, rfl, ?_, ?_, ?_⟩
 ·rw [e1, e]; exact World.putObj_heap_same hl
 ·rw [e1]; exact Only.put _ _ rfl
 ·rw [e1]; simpa [World.putObj] using hl
theorem exec_storeM {P : Program} {e : TypeId} {cs : List Value} {op : Oper} {a : Act} {w : World} {b off : Nat} {t : TypeId} {arr : Array Value} (x z : Operand) (ho : op.op = .store e x z) (hx : a.eval x = .pointer (some ⟨b, off, none⟩)) (hz : a.eval z = .agg cs.toArray) (hb : w.heap[b]? = some (.cells arr t (0, 0))) (hs : off + cs.length ≤ arr.size) (hi : (P.info? e).map (·.size) = some cs.length) (hone : ∀ v ∈ cs, v.oneCell' = true) :
  (execOp a.eval op).run P w = .ok .skip (w.setCells b off cs) := by
 have h1 := run_storeVar_mid (P := P) w b off e cs.toArray (fun j hj => by
  have hj' : off + j < arr.size := by simp at hj; omega
  refine ⟨?_, ?_⟩
  ·simp [World.cell?, hb, hj']
  ·simp [World.frozen?, hb]) (by rw [hi]; simp) (all_oneCell_toArray hone)
 unfold execOp
 simp only [ho, hx, hz, Instr.storeAt, Instr.sureAddr, Sem.run_bind, Sem.run_pure, Result.andThen_ok, h1]
set_option maxHeartbeats 1600000 in
set_option maxRecDepth 100000 in
theorem turned_ru (g : Nat) (v : Value) (xs : List Ru) (w : World) (h : SlU g w v xs) :
  Calls Tryz.prog 7 #[v] w fun e w' => (∃ u, e = .returned u) ∧ SlU g w' v xs.reverse ∧ Only (fun b => b = g) w w' := by
 have H := Lib.hid h
 have hxl : xs.length ≤ 9223372036854775807 := by have := h.len; omega
 have hgl := h.lt
 obtain rfl := h.1
 clear h
 go_enter Tryz.func7, Tryz.ntmps7
 go_wp2_with fail
 go_loopw [2, 3] (fun i _ wr => ∃ k : Nat, k ≤ xs.length / 2 ∧ i = .int .i64 k ∧ Hid (∃ ys, TurnK xs ys k ∧ SlU g wr (.slice (some ⟨g, 0, none⟩) xs.length (xs.length + 1)) ys) ∧ Hid (Only (fun b => b = g) w wr)) (fun i _ _ => xs.length / 2 - (intOf i).toNat)
 case atStart => exact ⟨0, Nat.zero_le _, rfl, Lib.hid ⟨xs, TurnK.start xs, H.out⟩, Lib.hid (Only.refl _)⟩
 case round =>
  obtain ⟨k, hk, rfl, hY, hO⟩ := hrel
  obtain ⟨ys, hT, hU⟩ := hY.out
  have hquo : (xs.length : Int).tdiv 2 = ((xs.length / 2 : Nat) : Int) := by rw [Int.tdiv_eq_ediv_of_nonneg (by omega)]; omega
  obtain ⟨m, hm⟩ : ∃ m, m = xs.length / 2 := ⟨_, rfl⟩
  rw [← hm] at hk hquo
  have hwm : wrap64 (m : Int) = (m : Int) := by unfold wrap64; omega
  by_cases hlt : k < m
  ·have hltI : (k : Int) < (m : Int) := by omega
   obtain ⟨q, hq⟩ : ∃ q, q = xs.length - 1 - k := ⟨_, rfl⟩
   have hqI : (xs.length : Int) - 1 - (k : Int) = (q : Int) := by omega
   have hkl : k < ys.length := by rw [hT.1]; omega
   have hql : q < ys.length := by rw [hT.1]; omega
   have e0 : (0 : Int) ≤ k ∧ (k : Int) < xs.length := by omega
   have e1 : (0 : Int) ≤ q ∧ (q : Int) < xs.length := by omega
   have hs := hT.step (by omega) (List.getElem?_eq_getElem hkl) (by rw [← hq]; exact List.getElem?_eq_getElem hql)
   rw [← hq] at hs
   obtain ⟨ci, ck, l1, l2, c1, c2, _, _, hU2, hO2, o1, o2⟩ := hU.swap hkl hql
   have hU' := hU
   obtain ⟨hx1, hx2, arr, hga, hsa, hx3⟩ := hU'
   clear hx1 hx2 hx3
   have hgw := (Array.getElem?_eq_some_iff.1 hga).1
   obtain ⟨arr1, e1', z1, s1⟩ := setCells_put ck (k * 3) wr arr hga
   have hg1 : (wr.putObj g (.cells arr1 80 (0, 0))).heap[g]? = some (.cells arr1 80 (0, 0)) := World.putObj_heap_same hgw
   obtain ⟨arr2, e2', z2, s2⟩ := setCells_put ci (q * 3) _ arr1 hg1
   rw [e1', e2'] at hU2 hO2
   obtain ⟨WF, hWF⟩ : ∃ W, (wr.putObj g (.cells arr1 80 (0, 0))).putObj g (.cells arr2 80 (0, 0)) = W := ⟨_, rfl⟩
   have hFs : WF.heap.size = wr.heap.size := by rw [← hWF]; simp [World.putObj]
   have hFg : WF.heap[g]? = some (.cells arr2 80 (0, 0)) := by rw [← hWF]; exact World.putObj_heap_same (by simpa [World.putObj] using hgw)
   rw [hWF] at hU2 hO2
   have s3 : ∀ j, arr2[j]? = if q * 3 ≤ j ∧ j < q * 3 + ci.length ∧ j < arr2.size then ci[j - q * 3]? else arr2[j]? := fun j => by
    by_cases hj : q * 3 ≤ j ∧ j < q * 3 + ci.length ∧ j < arr2.size
    ·rw [if_pos hj, s2, if_pos (by rw [← z2]; exact hj)]
    ·rw [if_neg hj]
   have HX := Lib.hid (show ∀ W : World, Only (fun b => b = g) wr W → W.heap[g]? = some (.cells arr2 80 (0, 0)) → SlU g W (.slice (some ⟨g, 0, none⟩) xs.length (xs.length + 1)) ((ys.set k ys[q]).set q ys[k]) from fun W hW hg => hU2.cong (hg.trans hFg.symm) (Only.back hO2 hW hFs))
   have n1 : k * 3 + ck.length ≤ arr.size := by rw [l2]; have := hT.1; omega
   have n2 : q * 3 + ci.length ≤ arr1.size := by rw [l1, z1]; have := hT.1; omega
   have n3 : q * 3 + ci.length ≤ arr2.size := by rw [z2]; exact n2
   have SA := Lib.hid (show ∀ W : World, Fut wr W → W.heap[g]? = some (.cells arr 80 (0, 0)) ∧ ∃ w', W.setCells g (k * 3) ck = w' ∧ w'.heap[g]? = some (.cells arr1 80 (0, 0)) ∧ Only (fun k => k = g) W w' ∧ g < w'.heap.size from fun W hW => ⟨hW.block hga, setCells_same (hW.block hga) s1⟩)
   have SB := Lib.hid (show ∀ W : World, (W.heap[g]? = some (.cells arr1 80 (0, 0)) ∨ W.heap[g]? = some (.cells arr2 80 (0, 0))) → ∃ A : Array Value, W.heap[g]? = some (.cells A 80 (0, 0)) ∧ q * 3 + ci.length ≤ A.size ∧ ∃ w', W.setCells g (q * 3) ci = w' ∧ w'.heap[g]? = some (.cells arr2 80 (0, 0)) ∧ Only (fun k => k = g) W w' ∧ g < w'.heap.size from fun W hW => by
    rcases hW with h | h
    ·exact ⟨arr1, h, n2, setCells_same h s2⟩
    ·exact ⟨arr2, h, n3, setCells_same h s3⟩)
   have HS := Lib.hid hs
   have Hq := Lib.hid hq
   have Hm := Lib.hid hm
   have HT := Lib.hid hT
   have hiN := infoRuT
   have r1 := Lib.hid (show wr.rangeAt g (k * 3) ci from fun j v hj => c1 j v hj)
   have r2 := Lib.hid (show wr.rangeAt g (q * 3) ck from fun j v hj => c2 j v hj)
   have hi1 : (Tryz.prog.info? 80).map (·.size) = some ci.length := by rw [l1]; exact hiN
   have hi2 : (Tryz.prog.info? 80).map (·.size) = some ck.length := by rw [l2]; exact hiN
   have N1 := Lib.hid n1
   clear hU hU2 hO2 hs hq hm hT c1 c2 hY s1 s2 s3 z1 z2 hg1 e1' e2' hFs hFg hWF hsa n1 n2 n3
   go_wp2
   letI iM : On.Mut := On.Mut.swap 7 11 13 15 (Only fun b => b = g) (fun a b => Only (fun b => b = g) a b ∧ (g < a.heap.size → b.heap[g]? = a.heap[g]? ∨ b.heap[g]? = some (.cells arr2 80 (0, 0)))) (Only fun b => b = g) Only.fut (fun h => ⟨Only.fut h, fun hl => .inl (Below.block h g hl)⟩) Only.fut Only.trans Only.trans
   refine On.wp_graph 16 [.d, .d, .d, .d, .d, .d, .d, .d, .d, .d, .d, .d, .d, .r (fun _ w' => g < w'.heap.size ∧ (w'.heap[g]? = some (.cells arr1 80 (0, 0)) ∨ w'.heap[g]? = some (.cells arr2 80 (0, 0)))), .d, .r (fun _ w' => w'.heap[g]? = some (.cells arr2 80 (0, 0)))] (by kernel_rfl) (by kernel_rfl) (by kernel_rfl) (.inr fun _ _ => trivial) (On.swap_dep (by kernel_rfl) (by kernel_rfl)) ?_
   simp only [takS, Exs]
   iterate 14 apply Exists.intro
   apply On.Run.valG (.inr fun _ _ => trivial) (wanted_none rfl _)
   ·intro w1 h1 hk
    go_simp; rfl
   simp only [actS]
   apply On.Run.valG (.inr fun _ _ => trivial) (wanted_none rfl _)
   ·intro w1 h1 hk
    go_simp; rfl
   simp only [actS]
   apply On.Run.valG (.inr fun _ _ => trivial) (wanted_none rfl _)
   ·intro w1 h1 hk
    go_simp; rfl
   simp only [actS]
   apply On.Run.valG (.inr fun _ _ => trivial) (wanted_none rfl _)
   ·intro w1 h1 hk
    go_simp; rfl
   simp only [actS]
   apply On.Run.valG (.inr fun _ _ => trivial) (wanted_none rfl _)
   ·intro w1 h1 hk
    go_simp; rfl
   simp only [actS]
   apply On.Run.valG (.inr fun _ _ => trivial) (wanted_none rfl _)
   ·intro w1 h1 hk
    go_simp; rfl
   simp only [actS]
   apply On.Run.valG (.inr fun _ _ => trivial) (wanted_none rfl _)
   ·intro w1 h1 hk
    go_simp; rfl
   simp only [actS]
   apply On.Run.valG (.inr fun _ _ => trivial) (wanted_none rfl _)
   ·intro w1 h1 hk
    exact exec_load_mid _ _ rfl g (q * 3) rfl ck _ (fun j v hj => ((Fut.drew _).trans (show Fut _ _ from h1)).cell (r2.out j v hj)) Tryz.underlying80 rfl hi2
   simp only [actS]
   apply On.Run.valG (.inr fun _ _ => trivial) (wanted_none rfl _)
   ·intro w1 h1 hk
    go_simp; rfl
   simp only [actS]
   apply On.Run.valG (.inr fun _ _ => trivial) (wanted_none rfl _)
   ·intro w1 h1 hk
    go_simp; rfl
   simp only [actS]
   apply On.Run.valG (.inr fun _ _ => trivial) (wanted_none rfl _)
   ·intro w1 h1 hk
    go_simp; rfl
   simp only [actS]
   apply On.Run.valG (.inr fun _ _ => trivial) (wanted_none rfl _)
   ·intro w1 h1 hk
    exact exec_load_mid _ _ rfl g (k * 3) rfl ci _ (fun j v hj => ((Fut.drew _).trans (show Fut _ _ from h1)).cell (r1.out j v hj)) Tryz.underlying80 rfl hi1
   simp only [actS]
   apply On.Run.valG (.inr fun _ _ => trivial) (wanted_none rfl _)
   ·intro w1 h1 hk
    go_simp; rfl
   simp only [actS]
   apply On.Run.mutSR (.inr fun _ _ => trivial) (wanted_none rfl _) (by intro v w w' hf hs; exact (by obtain ⟨a1, a2⟩ := hs; obtain ⟨b1, b2⟩ := (show Only (fun b => b = g) w w' ∧ (g < w.heap.size → w'.heap[g]? = w.heap[g]? ∨ w'.heap[g]? = some (.cells arr2 80 (0, 0))) from hf); exact ⟨Nat.lt_of_lt_of_le a1 b1.size, (b2 a1).elim (fun e => by rw [e]; exact a2) .inr⟩))
   ·intro w1 h1 hk
    obtain ⟨hgw', w9, ew, eg, eO, el⟩ := SA.out _ ((Fut.drew _).trans (show Fut _ _ from h1)); exact ⟨w9, by rw [← ew]; exact exec_storeM _ _ rfl rfl rfl hgw' N1.out hi2 o2, On.Eff.swap1 eO eO, el, .inl eg⟩
   intro v13
   simp only [actS]
   apply On.Run.valG (.inr fun _ _ => trivial) (wanted_none rfl _)
   ·intro w1 h1 hk
    go_simp; rfl
   simp only [actS]
   apply On.Run.mutSR (.inr fun _ _ => trivial) (wanted_none rfl _) (by intro v w w' hf hs; exact (by have h9 : Fut w w' := hf; exact h9.block hs))
   ·intro w1 h1 hk
    have f13 := Facts.get hk 0 rfl (by kernel_rfl)
    obtain ⟨A9, hA9, hs9, w9, ew, eg, eO, el⟩ := SB.out _ f13.2; exact ⟨w9, by rw [← ew]; exact exec_storeM _ _ rfl rfl rfl hA9 hs9 hi1 o1, On.Eff.swap2 ⟨eO, fun _ => .inr eg⟩ eO, eg⟩
   intro v15
   simp only [actS]
   apply On.Run.done
   intro w2 h2 hk hJ
   obtain ⟨f13, f15, _⟩ := hk
   have hR2 : Only (fun b => b = g) wr w2 := (Only.fut (Fut.drew _)).trans (show Only (fun b => b = g) _ _ from h2)
   have HU2 := Lib.hid (HX.out _ hR2 f15)
   have HO2 := Lib.hid (hO.out.trans hR2)
   clear hR2 f13 f15 h2 HX SA SB
   go_wp2
   go_roundw
   case rel => exact ⟨k + 1, by have := Hm.out; omega, by go_num, Lib.hid ⟨_, HS.out, HU2.out⟩, HO2⟩
   case measure =>
    have := Hm.out
    simp [intOf] <;> omega
  ·have hltI : ¬ (k : Int) < (m : Int) := by omega
   have hx := hT.1
   have hT' := hT
   obtain rfl : k = m := by omega
   rw [hm] at hT'
   obtain rfl := hT'.done
   have HU := Lib.hid hU
   clear hT hT' hU hY
   go_wp2
   go_end0
   exact ⟨⟨_, rfl⟩, HU.out, hO.out⟩
abbrev tSt : TypeId := 141
def setE (L : List ByteArray) : List (ByteArray × Value) := L.map fun s => (s, .agg #[])
theorem zeroU (w : World) : (zeroValue 101).run Tryz.prog w = .ok (.agg #[]) w := by kernel_rfl
section
variable {w : World} {b : Nat} {L : List ByteArray} {p : ByteArray}
theorem setE_ok (h : ∀ s ∈ L, s.size ≤ 140737488351232) : ∀ q ∈ setE L, q.1.size ≤ maxLen := fun q hq => by
 obtain ⟨s, hs, rfl⟩ := List.mem_map.1 hq
 exact Nat.le_trans (h s hs) (by unfold maxLen; omega)
theorem set_look (h : MapE strV w b (setE L)) (hs : ∀ s ∈ L, s.size ≤ 140737488351232) (hp : p.size ≤ 140737488351232) : (Instr.lookup tSt (.map (some b)) (.string p) true).run Tryz.prog w = .ok (.tuple #[.agg #[], .bool (decide (p ∈ L))]) w := by
 have h1 := (h.look (t := tSt) keyStr (setE_ok hs) Tryz.underlying141 zeroU (x := p) (Nat.le_trans hp (by unfold maxLen; omega))).2
 by_cases e : p ∈ L
 ·obtain ⟨i, hi⟩ := List.getElem?_of_mem e
  have hg : getE (setE L) p = some (.agg #[]) := getE_at h.nodup (j := i) (by unfold setE; rw [List.getElem?_map, hi]; rfl)
  rw [hg] at h1
  rw [decide_eq_true e]
  exact h1
 ·have hg : getE (setE L) p = none := getE_none fun q hq he => e (by
   obtain ⟨s, hs, rfl⟩ := List.mem_map.1 hq
   rw [← he]; exact hs)
  rw [hg] at h1
  rw [decide_eq_false e]
  exact h1
theorem set_add (h : MapE strV w b (setE L)) (hs : ∀ s ∈ L, s.size ≤ 140737488351232) (hp : p.size ≤ 140737488351232) : ∃ w', (Instr.mapUpdate tSt (.map (some b)) (.string p) (.agg #[])).run Tryz.prog w = .ok () w' ∧ MapE strV w' b (setE (addF L p)) ∧ w.grownBy w' (some b) := by
 have hpm : p.size ≤ maxLen := Nat.le_trans hp (by unfold maxLen; omega)
 by_cases e : p ∈ L
 ·obtain ⟨i, hi⟩ := List.getElem?_of_mem e
  have hat : (setE L)[i]? = some (p, .agg #[]) := by unfold setE; rw [List.getElem?_map, hi]; rfl
  obtain ⟨w', h1, h2, h3⟩ := h.put (t := tSt) keyStr (setE_ok hs) Tryz.underlying141 (x := p) hpm hat (.agg #[])
  refine ⟨w', h1, ?_, h3⟩
  have e1 : (setE L).set i (p, .agg #[]) = setE L := by
   refine List.ext_getElem? fun j => ?_
   rw [List.getElem?_set]
   by_cases hj : i = j
   ·subst hj
    rw [if_pos rfl, if_pos (List.getElem?_eq_some_iff.1 hat).1, hat]
   ·rw [if_neg hj]
  rw [e1] at h2
  unfold addF
  rw [if_pos e]
  exact h2
 ·obtain ⟨w', h1, h2, h3⟩ := h.push (t := tSt) keyStr (setE_ok hs) Tryz.underlying141 (x := p) hpm (fun q hq he => e (by
   obtain ⟨s, hs, rfl⟩ := List.mem_map.1 hq
   rw [← he]; exact hs)) (.agg #[])
  refine ⟨w', h1, ?_, h3⟩
  unfold addF
  rw [if_neg e]
  have e1 : setE (L ++ [p]) = setE L ++ [(p, .agg #[])] := by unfold setE; rw [List.map_append]; rfl
  rw [e1]
  exact h2
end
theorem addF_mem {L : List ByteArray} {v x : ByteArray} : x ∈ addF L v ↔ x ∈ L ∨ x = v := by
 unfold addF
 split
 ·rename_i h
  constructor
  ·exact .inl
  ·rintro (h1 | rfl)
   ·exact h1
   ·exact h
 ·rw [List.mem_append, List.mem_singleton]
theorem foldF_mem : ∀ (vs L : List ByteArray) (x : ByteArray), x ∈ vs.foldl addF L ↔ x ∈ L ∨ x ∈ vs
 | [], L, x => by simp
 | v :: r, L, x => by
  rw [List.foldl_cons, foldF_mem r, addF_mem, List.mem_cons, or_assoc]
def headsP (rs : List Ru) : List ByteArray := (rs.map (·.p)).foldl addF []
def Ed.strictIn (e : Ed) (H : List ByteArray) : Bool := decide (e.t ∈ H) && !decide (e.k = 1)
def oneP (rs : List Ru) : Bool := !rs.any Ru.agg && !(edgesP rs).any fun e => e.strictIn (headsP rs)
theorem infoEdZ : (Tryz.prog.info? 92).map (fun i => (i.zero, i.size)) = some (some (.agg #[.string ⟨#[]⟩, .string ⟨#[]⟩, .int .i8 0, .int .i64 0]), 4) := by kernel_rfl
theorem ed_at {M : Nat} {w : World} {A : Option Addr} {n cap : Nat} {xs : List Ed} (h : SlRep 4 M REd w (.slice A n cap) xs) {k : Nat} (hk : k < xs.length) :
  ∃ b off, A = some ⟨b, off, none⟩ ∧ ∀ j v, ([.string (xs[k]).f, .string (xs[k]).t, .int .i8 (xs[k]).k, .int .i64 (xs[k]).r] : List Value)[j]? = some v → w.cell? ⟨b, off + k * 4 + j, none⟩ = some v := by
 obtain ⟨A1, cap1, hv, _, _, h3⟩ := h
 obtain ⟨b, off, cs, hA, hl, hc, hr⟩ := h3 k _ (List.getElem?_eq_getElem hk)
 injection hv with hv _ _
 obtain rfl : cs = _ := hr
 exact ⟨b, off, hv.trans hA, fun j v hj => by rw [Nat.add_assoc]; exact hc j v hj⟩
theorem ed_to (rs : List Ru) (hp : ∀ r ∈ rs, ∀ x ∈ r.b, x.p.size ≤ 140737488351232) : ∀ e ∈ edgesP rs, e.t.size ≤ 140737488351232 := fun e he => by
 unfold edgesP at he
 obtain ⟨⟨r, i⟩, hr, he⟩ := List.mem_flatMap.1 he
 unfold Ru.edges at he
 obtain ⟨x, hx, rfl⟩ := List.mem_map.1 he
 have hr2 : r ∈ rs := by
  have := List.mem_zipIdx hr
  obtain ⟨_, _, h3⟩ := this
  rw [h3]
  exact List.getElem_mem _
 exact hp r hr2 x (List.mem_filter.1 hx).1
theorem rus_ok {M : Nat} {w : World} {v : Value} {rs : List Ru} (h : SlRep 3 M RRu w v rs) : (∀ r ∈ rs, r.p.size ≤ 140737488351232) ∧ ∀ r ∈ rs, ∀ x ∈ r.b, x.p.size ≤ 140737488351232 := by
 refine ⟨fun r hr => ?_, fun r hr x hx => ?_⟩
 ·obtain ⟨cs, hv, bv, _, h1, _⟩ := sl_mem h r hr
  exact h1
 ·obtain ⟨cs, hv, bv, _, _, _, h2⟩ := sl_mem h r hr
  obtain ⟨cs', hr'⟩ := sl_mem h2 x hx
  obtain ⟨_, _, _, _, _, _, _, _, _, _, _, hc⟩ := lt_cs hr'
  exact hc.pw
set_option maxHeartbeats 4000000 in
set_option maxRecDepth 100000 in
theorem one_any {M : Nat} (A : Option Addr) (c : Nat) (rs : List Ru) (w : World) (h : SlRep 3 M RRu w (.slice A rs.length c) rs) (hM : M ≤ 9223372036854775807) (hS : Small rs) :
  Calls Tryz.prog 28 #[.slice A rs.length c] w fun e w' => e = .returned (.bool (oneP rs)) ∧ Fut w w' := by
 obtain ⟨_, _, hv, hl1, hl2⟩ := h.form
 have hxl : rs.length ≤ 9223372036854775807 := by omega
 have H := Lib.hid h
 have hok := rus_ok h
 have HE := Lib.hid (fun W (hW : Fut w W) => edges_any A c rs W (h.fut RRu.stays hW) hM hS)
 have HO := Lib.hid hok.1
 have HT := Lib.hid (ed_to rs hok.2)
 have HN := Lib.hid hS.edges
 obtain ⟨r0, hr0⟩ : ∃ b, oneP rs = b := ⟨_, rfl⟩
 rw [hr0]
 replace hr0 := Lib.hid hr0
 clear h hS hl1 hl2 hv hok
 have hm := MapE.new (kv := strV) w
 have HF0 := Lib.hid (Fut.alloc w (.map #[] 0))
 have HI := Lib.hid (show MapE strV (w.alloc (.map #[] 0)) w.heap.size (setE (((rs.take 0).map (·.p)).foldl addF [])) from hm)
 clear hm
 have hmm := @run_makeMap Tryz.prog
 go_enter Tryz.func28, Tryz.ntmps28
 go_wp2_with fail
 clear hmm
 go_loopw [13] (fun i wr => ∃ k : Nat, k ≤ rs.length ∧ i = .int .i64 k ∧ Hid (Fut w wr) ∧ Hid (MapE strV wr w.heap.size (setE (((rs.take k).map (·.p)).foldl addF []))) ∧ Hid (∀ r ∈ rs.take k, r.agg = false)) (fun i _ => rs.length - (intOf i).toNat)
 case atStart => exact ⟨0, Nat.zero_le _, rfl, HF0, HI, Lib.hid (fun r hr => by simp at hr)⟩
 case round =>
  obtain ⟨k, hk, rfl, hF, hI, hA⟩ := hrel
  by_cases hlt : k < rs.length
  ·have hltI : (k : Int) < rs.length := by omega
   have e0 : (0 : Int) ≤ k ∧ (k : Int) < rs.length := by omega
   obtain ⟨b', off, Ah, ch, Ab, cb, rfl, u0, u1, u2, hp, hh1, hh2⟩ := ru_at H.out hlt
   have hnx := Lib.hid (show ((rs.take (k + 1)).map (·.p)).foldl addF [] = addF (((rs.take k).map (·.p)).foldl addF []) (rs[k]).p by rw [List.take_succ_eq_append_getElem hlt, List.map_append, List.foldl_append]; rfl)
   have htk := Lib.hid (List.take_succ_eq_append_getElem hlt)
   have hmem := Lib.hid (List.getElem_mem hlt)
   have hsz : ∀ s ∈ ((rs.take k).map (·.p)).foldl addF [], s.size ≤ 140737488351232 := fun s hs => by
    rcases (foldF_mem _ _ _).1 hs with hs | hs
    ·cases hs
    ·obtain ⟨r, hr, rfl⟩ := List.mem_map.1 hs
     exact HO.out r (List.mem_of_mem_take hr)
   generalize rs[k] = r at *
   have hcs9 := Lib.hid (three_cells (hF.out.cell u0) (hF.out.cell u1) (hF.out.cell u2))
   obtain ⟨L, hL⟩ : ∃ L, ((rs.take k).map (·.p)).foldl addF [] = L := ⟨_, rfl⟩
   rw [hL] at hI hnx hsz
   obtain ⟨w2, hw2⟩ : ∃ W, wr.alloc (.cells [.string r.p, .slice Ah r.h.length ch, .slice Ab r.b.length cb].toArray 80) = W := ⟨_, rfl⟩
   have f1 : Fut wr w2 := by rw [← hw2]; exact Fut.alloc _ _
   have hrb : w2.heap[wr.heap.size]? = some (.cells #[.string r.p, .slice Ah r.h.length ch, .slice Ab r.b.length cb] 80 (0, 0)) := by rw [← hw2]; exact heap_alloc_new wr _
   have q0 := cell_at hrb 0 (.string r.p) rfl
   have q1 := cell_at hrb 1 (.slice Ah r.h.length ch) rfl
   have q2 := cell_at hrb 2 (.slice Ab r.b.length cb) rfl
   have hone : ∀ v ∈ ([.string r.p, .slice Ah r.h.length ch, .slice Ab r.b.length cb] : List Value), v.oneCell' = true := fun v hv => by
    simp only [List.mem_cons, List.not_mem_nil, or_false] at hv
    rcases hv with rfl | rfl | rfl <;> rfl
   have F2 := Lib.hid (hF.out.trans f1)
   have HC := Lib.hid (agg_any r Ah Ab ch cb w2 (hh1.fut RAr.stays F2.out))
   have hw2h := Lib.hid hw2
   have hI2 := Lib.hid (hI.out.fut f1)
   have HRB := Lib.hid hrb
   clear hw2 f1 hI u0 u1 u2 hL hrb hh1 hh2
   obtain ⟨g, hg⟩ : ∃ g, r.agg = g := ⟨_, rfl⟩
   rw [hg] at HC
   replace hg := Lib.hid hg
   cases g
   ·go_wp2_with (first | (refine wpList_rangeBox [.string r.p, .slice Ah r.h.length ch, .slice Ab r.b.length cb] rfl rfl rfl rfl rfl rfl rfl hcs9.out Tryz.underlying80 infoRu rfl hone rfl rfl hw2h.out ?_))
    refine HC.out.mono ?_
    rintro e w3 ⟨rfl, f3⟩
    have q0' := cell_at (f3.block HRB.out) 0 (.string r.p) rfl
    obtain ⟨w4, hr4, hm4, hg4⟩ := set_add (hI2.out.fut f3) hsz hp
    have O4 : Only (fun k => k = w.heap.size) w3 w4 := Only.grown hg4 fun k hk => (Option.some.inj hk).symm
    have O5 : Only (fun k => w.heap.size ≤ k) w w4 := (Only.fut (F2.out.trans f3)).trans (O4.mono fun k _ hk => by omega)
    have HF4 := Lib.hid (O5.toFut fun k hk => hk)
    have HM4 := Lib.hid (show MapE strV w4 w.heap.size (setE (((rs.take (k + 1)).map (·.p)).foldl addF [])) by rw [hnx.out]; exact hm4)
    have HA4 := Lib.hid (show ∀ r ∈ rs.take (k + 1), r.agg = false from fun x hx => by
     rw [htk.out, List.mem_append] at hx
     rcases hx with hx | hx
     ·exact hA.out x hx
     ·rw [List.mem_singleton] at hx; subst hx; exact hg.out)
    clear f3 hm4 hg4 O4 O5 hsz hp HC q0 q1 q2
    go_wp2
    go_roundw
    case rel => exact ⟨k + 1, by omega, by go_num, HF4, HM4, HA4⟩
    case measure => simp [intOf] <;> omega
   ·obtain rfl : r0 = false := by
     rw [← hr0.out]
     have h9 : rs.any Ru.agg = true := List.any_eq_true.2 ⟨r, hmem.out, hg.out⟩
     unfold oneP
     rw [h9]
     rfl
    go_wp2_with (first | (refine wpList_rangeBox [.string r.p, .slice Ah r.h.length ch, .slice Ab r.b.length cb] rfl rfl rfl rfl rfl rfl rfl hcs9.out Tryz.underlying80 infoRu rfl hone rfl rfl hw2h.out ?_))
    refine HC.out.mono ?_
    rintro e w3 ⟨rfl, f3⟩
    go_wp2
    go_ret
    exact ⟨rfl, F2.out.trans f3⟩
  ·obtain rfl : k = rs.length := by omega
   rw [List.take_length] at hI hA
   have hag : rs.any Ru.agg = false := List.any_eq_false.2 fun x hx => by rw [hA.out x hx]; decide
   have hr1 := Lib.hid (show (!(edgesP rs).any fun e => e.strictIn (headsP rs)) = r0 by
    have := hr0.out
    unfold oneP at this
    rw [hag] at this
    exact this)
   have HIm := Lib.hid (show MapE strV wr w.heap.size (setE (headsP rs)) from hI.out)
   have hHs := Lib.hid (show ∀ s ∈ headsP rs, s.size ≤ 140737488351232 from fun s hs => by
    rcases (foldF_mem _ _ _).1 hs with hs | hs
    ·cases hs
    ·obtain ⟨r, hr, rfl⟩ := List.mem_map.1 hs
     exact HO.out r hr)
   have HC := Lib.hid (HE.out wr hF.out)
   generalize edgesP rs = es at *
   generalize headsP rs = hd at *
   have hFr := Lib.hid hF.out
   clear hI hA hag hr0 HE HI HF0 hF
   obtain ⟨wo, hwo⟩ : ∃ x, x = wr := ⟨_, rfl⟩
   subst hwo
   go_wp2_with fail
   refine HC.out.mono ?_
   rintro e w3 ⟨v, rfl, ho, f3⟩
   obtain ⟨Ae, ce, rfl, _, _⟩ := ho.rep.form
   have hn := HN.out
   have HOw := Lib.hid ho
   have HM3 := Lib.hid (HIm.out.fut f3)
   have HF3 := Lib.hid (hFr.out.trans f3)
   clear ho f3 HC
   go_wp2_with fail
   go_loopw [28] (fun i W => ∃ k : Nat, k ≤ es.length ∧ i = .int .i64 k ∧ Hid (Fut w3 W) ∧ Hid (∀ e ∈ es.take k, e.strictIn hd = false)) (fun i _ => es.length - (intOf i).toNat)
   case atStart => exact ⟨0, Nat.zero_le _, rfl, Lib.hid (Fut.refl _), Lib.hid (fun r hr => by simp at hr)⟩
   case round =>
    obtain ⟨k, hk, rfl, hF, hA⟩ := hrel
    by_cases hlt : k < es.length
    ·have hltI : (k : Int) < es.length := by omega
     have e0 : (0 : Int) ≤ k ∧ (k : Int) < es.length := by omega
     obtain ⟨b', off, rfl, hcs⟩ := ed_at (HOw.out.fut REd.stays hF.out).rep hlt
     have htk := Lib.hid (List.take_succ_eq_append_getElem hlt)
     have hmem := Lib.hid (List.getElem_mem hlt)
     have hets := HT.out _ hmem.out
     generalize es[k] = x at *
     obtain ⟨w4, hw4⟩ : ∃ W, wr.alloc (.cells [.string x.f, .string x.t, .int .i8 x.k, .int .i64 x.r].toArray 92) = W := ⟨_, rfl⟩
     have f1 : Fut wr w4 := by rw [← hw4]; exact Fut.alloc _ _
     have hrb : w4.heap[wr.heap.size]? = some (.cells #[.string x.f, .string x.t, .int .i8 x.k, .int .i64 x.r] 92 (0, 0)) := by rw [← hw4]; exact heap_alloc_new wr _
     have q1 := cell_at hrb 1 (.string x.t) rfl
     have f2 := Fut.alloc w4 (.cells #[] 101)
     have q2 := f2.cell (cell_at hrb 2 (.int .i8 x.k) rfl)
     have hL := set_look (HM3.out.fut (hF.out.trans f1)) hHs.out hets
     have hone : ∀ v ∈ ([.string x.f, .string x.t, .int .i8 x.k, .int .i64 x.r] : List Value), v.oneCell' = true := fun v hv => by
      simp only [List.mem_cons, List.not_mem_nil, or_false] at hv
      rcases hv with rfl | rfl | rfl | rfl <;> rfl
     have hw4h := Lib.hid hw4
     have hcs9 := Lib.hid hcs
     have FN := Lib.hid ((hF.out.trans f1).trans f2)
     clear hw4 f1 f2 hrb hcs hets
     have hst : x.strictIn hd = (decide (x.t ∈ hd) && !decide (x.k = 1)) := rfl
     have next : x.strictIn hd = false → Hid (∀ e ∈ es.take (k + 1), e.strictIn hd = false) := fun hx => Lib.hid fun y hy => by
      rw [htk.out, List.mem_append] at hy
      rcases hy with hy | hy
      ·exact hA.out y hy
      ·rw [List.mem_singleton] at hy; subst hy; exact hx
     by_cases e1 : x.t ∈ hd
     ·rw [decide_eq_true e1] at hL hst
      by_cases e2 : x.k = 1
      ·have HA4 := next (by rw [hst, e2]; rfl)
       clear next hst e1
       go_wp2_with (first | (refine wpList_rangeBox [.string x.f, .string x.t, .int .i8 x.k, .int .i64 x.r] rfl rfl rfl rfl rfl rfl rfl hcs9.out Tryz.underlying92 infoEdZ rfl hone rfl rfl hw4h.out ?_))
       go_roundw
       case rel => exact ⟨k + 1, by omega, by go_num, FN, HA4⟩
       case measure => simp [intOf] <;> omega
      ·obtain rfl : r0 = false := by
        rw [← hr1.out]
        have h9 : (es.any fun e => e.strictIn hd) = true := List.any_eq_true.2 ⟨x, hmem.out, by rw [hst, decide_eq_false e2]; rfl⟩
        rw [h9]; rfl
       clear next hst e1
       go_wp2_with (first | (refine wpList_rangeBox [.string x.f, .string x.t, .int .i8 x.k, .int .i64 x.r] rfl rfl rfl rfl rfl rfl rfl hcs9.out Tryz.underlying92 infoEdZ rfl hone rfl rfl hw4h.out ?_))
       go_ret
       exact ⟨rfl, HF3.out.trans FN.out⟩
     ·rw [decide_eq_false e1] at hL hst
      have HA4 := next (by rw [hst]; rfl)
      clear next hst e1
      go_wp2_with (first | (refine wpList_rangeBox [.string x.f, .string x.t, .int .i8 x.k, .int .i64 x.r] rfl rfl rfl rfl rfl rfl rfl hcs9.out Tryz.underlying92 infoEdZ rfl hone rfl rfl hw4h.out ?_))
      go_roundw
      case rel => exact ⟨k + 1, by omega, by go_num, FN, HA4⟩
      case measure => simp [intOf] <;> omega
    ·obtain rfl : k = es.length := by omega
     rw [List.take_length] at hA
     obtain rfl : r0 = true := by
      rw [← hr1.out]
      have h9 : (es.any fun e => e.strictIn hd) = false := List.any_eq_false.2 fun x hx => by rw [hA.out x hx]; decide
      rw [h9]; rfl
     go_wp2
     go_ret
     exact ⟨rfl, HF3.out.trans hF.out⟩
set_option maxHeartbeats 1000000 in
theorem sameEd_any {M M' : Nat} (a b : Value) (xs : List Ed) (w : World) (ha : SlRep 4 M REd w a xs) (hb : SlRep 4 M' REd w b xs) (hM : M ≤ 9223372036854775807) :
  Calls Tryz.prog 16 #[a, b] w fun e w' => e = .returned (.bool true) ∧ Fut w w' := by
 have HA := Lib.hid ha
 have HB := Lib.hid hb
 obtain ⟨A, ca, rfl, hl1, hl2⟩ := ha.form
 obtain ⟨A', cb, rfl, _, _⟩ := hb.form
 have hxl : xs.length ≤ 9223372036854775807 := by omega
 clear ha hb hl1 hl2
 go_enter Tryz.func16, Tryz.ntmps16
 go_wp2_with fail
 go_loopw [5] (fun i wr => ∃ k : Nat, k ≤ xs.length ∧ i = .int .i64 k ∧ Hid (Fut w wr)) (fun i _ => xs.length - (intOf i).toNat)
 case atStart => exact ⟨0, Nat.zero_le _, rfl, Lib.hid (Fut.refl _)⟩
 case round =>
  obtain ⟨k, hk, rfl, hG⟩ := hrel
  by_cases hlt : k < xs.length
  ·obtain ⟨b1, o1, rfl, hx⟩ := ed_at (HA.out.fut REd.stays hG.out) hlt
   obtain ⟨b2, o2, rfl, hy⟩ := ed_at (HB.out.fut REd.stays hG.out) hlt
   generalize xs[k] = z at *
   have x0 : wr.cell? ⟨b1, o1 + k * 4, none⟩ = some (.string z.f) := hx 0 _ rfl
   have x1 := hx 1 _ rfl
   have x2 := hx 2 _ rfl
   have x3 := hx 3 _ rfl
   have y0 : wr.cell? ⟨b2, o2 + k * 4, none⟩ = some (.string z.f) := hy 0 _ rfl
   have y1 := hy 1 _ rfl
   have y2 := hy 2 _ rfl
   have y3 := hy 3 _ rfl
   clear hx hy
   have hltI : (k : Int) < xs.length := by omega
   have e0 : (0 : Int) ≤ k ∧ (k : Int) < xs.length := by omega
   go_wp2_with fail
   refine wp_graph 9 [.d, .d, .d, .d, .d, .d, .d, .d, .d] (by kernel_rfl) (by kernel_rfl) (by kernel_rfl) ?_
   simp only [takS, Exs]
   iterate 9 apply Exists.intro
   apply Run.valG (wanted_none rfl _)
   ·intro w1 h1 hk
    have q1 := h1.cell x0; have q2 := h1.cell y0; have q3 := h1.cell x1; have q4 := h1.cell y1; have q5 := h1.cell x2; have q6 := h1.cell y2; have q7 := h1.cell x3; have q8 := h1.cell y3
    have hcw := fun b o => Below.cell (p := ⟨b, o, none⟩) h1
    go_simp; rfl
   simp only [actS]
   apply Run.valG (wanted_none rfl _)
   ·intro w1 h1 hk
    have q1 := h1.cell x0; have q2 := h1.cell y0; have q3 := h1.cell x1; have q4 := h1.cell y1; have q5 := h1.cell x2; have q6 := h1.cell y2; have q7 := h1.cell x3; have q8 := h1.cell y3
    have hcw := fun b o => Below.cell (p := ⟨b, o, none⟩) h1
    go_simp; rfl
   simp only [actS]
   apply Run.valG (wanted_none rfl _)
   ·intro w1 h1 hk
    have q1 := h1.cell x0; have q2 := h1.cell y0; have q3 := h1.cell x1; have q4 := h1.cell y1; have q5 := h1.cell x2; have q6 := h1.cell y2; have q7 := h1.cell x3; have q8 := h1.cell y3
    have hcw := fun b o => Below.cell (p := ⟨b, o, none⟩) h1
    go_simp; rfl
   simp only [actS]
   apply Run.valG (wanted_none rfl _)
   ·intro w1 h1 hk
    have q1 := h1.cell x0; have q2 := h1.cell y0; have q3 := h1.cell x1; have q4 := h1.cell y1; have q5 := h1.cell x2; have q6 := h1.cell y2; have q7 := h1.cell x3; have q8 := h1.cell y3
    have hcw := fun b o => Below.cell (p := ⟨b, o, none⟩) h1
    go_simp; rfl
   simp only [actS]
   apply Run.valG (wanted_none rfl _)
   ·intro w1 h1 hk
    have q1 := h1.cell x0; have q2 := h1.cell y0; have q3 := h1.cell x1; have q4 := h1.cell y1; have q5 := h1.cell x2; have q6 := h1.cell y2; have q7 := h1.cell x3; have q8 := h1.cell y3
    have hcw := fun b o => Below.cell (p := ⟨b, o, none⟩) h1
    go_simp; rfl
   simp only [actS]
   apply Run.valG (wanted_none rfl _)
   ·intro w1 h1 hk
    have q1 := h1.cell x0; have q2 := h1.cell y0; have q3 := h1.cell x1; have q4 := h1.cell y1; have q5 := h1.cell x2; have q6 := h1.cell y2; have q7 := h1.cell x3; have q8 := h1.cell y3
    have hcw := fun b o => Below.cell (p := ⟨b, o, none⟩) h1
    go_simp; rfl
   simp only [actS]
   apply Run.valG (wanted_none rfl _)
   ·intro w1 h1 hk
    have q1 := h1.cell x0; have q2 := h1.cell y0; have q3 := h1.cell x1; have q4 := h1.cell y1; have q5 := h1.cell x2; have q6 := h1.cell y2; have q7 := h1.cell x3; have q8 := h1.cell y3
    have hcw := fun b o => Below.cell (p := ⟨b, o, none⟩) h1
    go_simp; rfl
   simp only [actS]
   apply Run.valG (wanted_none rfl _)
   ·intro w1 h1 hk
    have q1 := h1.cell x0; have q2 := h1.cell y0; have q3 := h1.cell x1; have q4 := h1.cell y1; have q5 := h1.cell x2; have q6 := h1.cell y2; have q7 := h1.cell x3; have q8 := h1.cell y3
    have hcw := fun b o => Below.cell (p := ⟨b, o, none⟩) h1
    go_simp; rfl
   simp only [actS]
   apply Run.valG (wanted_none rfl _)
   ·intro w1 h1 hk
    have q1 := h1.cell x0; have q2 := h1.cell y0; have q3 := h1.cell x1; have q4 := h1.cell y1; have q5 := h1.cell x2; have q6 := h1.cell y2; have q7 := h1.cell x3; have q8 := h1.cell y3
    have hcw := fun b o => Below.cell (p := ⟨b, o, none⟩) h1
    go_simp; rfl
   simp only [actS]
   apply Run.done
   intro w2 h2 hk
   clear hk
   have hGn := Lib.hid (hG.out.trans ((Fut.drew _).trans h2))
   clear h2
   go_wp2
   go_roundw
   case rel => exact ⟨k + 1, by omega, by go_num, hGn⟩
   case measure => simp [intOf] <;> omega
  ·obtain rfl : k = xs.length := by omega
   go_wp2
   go_ret
   exact ⟨rfl, hG.out⟩
abbrev Gr := List (ByteArray × List ByteArray)
def Gr.names (G : Gr) : List ByteArray := G.map (·.1)
def sucs (G : Gr) (s : ByteArray) : List ByteArray := ((G.find? fun x => decide (x.1 = s)).map (·.2)).getD []
def addG (G : Gr) (s : ByteArray) : Gr := if s ∈ G.names then G else G ++ [(s, [])]
def pushG (G : Gr) (s t : ByteArray) : Gr := G.map fun x => if x.1 = s then (x.1, x.2 ++ [t]) else x
def stepG (p : ByteArray) (G : Gr) (l : Lt) : Gr := addG (pushG G p l.p) l.p
def drawR (G : Gr) (r : Ru) : Gr := (r.b.filter Lt.isA).foldl (stepG r.p) (addG G r.p)
def drawP (rs : List Ru) : Gr := rs.foldl drawR []
abbrev tG : TypeId := 84
theorem zeroSl (w : World) : (zeroValue 94).run Tryz.prog w = .ok (.slice none 0 0) w := by kernel_rfl
def GrI (B : Nat) (W : World) (mb : Nat) (G : Gr) : Prop :=
 ∃ vs : List Value, vs.length = G.length ∧ MapE strV W mb (G.names.zip vs) ∧ (∀ (i : Nat) v x, vs[i]? = some v → G[i]? = some x → Nms B W v x.2) ∧ (∀ (i j : Nat) v u k, vs[i]? = some v → vs[j]? = some u → v.ownBlock = some k → u.ownBlock = some k → i = j) ∧
  (∀ x ∈ G, x.1.size ≤ 140737488351232 ∧ ∀ y ∈ x.2, y.size ≤ 140737488351232) ∧ B ≤ mb
theorem zip_fst {G : Gr} {vs : List Value} (h : vs.length = G.length) : (G.names.zip vs).map (·.1) = G.names := by
 rw [List.map_fst_zip]
 unfold Gr.names
 rw [List.length_map]
 omega
theorem zip_at {G : Gr} {vs : List Value} {i : Nat} {x : ByteArray × List ByteArray} {v : Value} (h1 : G[i]? = some x) (h2 : vs[i]? = some v) : (G.names.zip vs)[i]? = some (x.1, v) := by
 rw [List.getElem?_zip_eq_some]
 exact ⟨by unfold Gr.names; rw [List.getElem?_map, h1]; rfl, h2⟩
theorem names_at {G : Gr} {s : ByteArray} (h : s ∈ G.names) : ∃ (i : Nat) (S : List ByteArray), G[i]? = some (s, S) := by
 obtain ⟨x, hx, rfl⟩ := List.mem_map.1 h
 obtain ⟨i, hi⟩ := List.getElem?_of_mem hx
 exact ⟨i, x.2, hi⟩
theorem sucs_at {G : Gr} (hn : G.names.Nodup) {i : Nat} {s : ByteArray} {S : List ByteArray} (h : G[i]? = some (s, S)) : sucs G s = S := by
 have hv : ∀ (G : Gr) (i : Nat), G.names.Nodup → G[i]? = some (s, S) → G.find? (fun x => decide (x.1 = s)) = some (s, S) := by
  intro G
  induction G with
  | nil => intro i _ h; simp at h
  | cons x r ih =>
   intro i hn h
   unfold Gr.names at hn ih
   rw [List.map_cons, List.nodup_cons] at hn
   cases i with
   | zero =>
    simp at h
    subst h
    simp
   | succ i =>
    simp at h
    have hne : x.1 ≠ s := fun e => hn.1 (List.mem_map.2 ⟨(s, S), List.mem_of_getElem? h, e.symm⟩)
    rw [List.find?_cons_of_neg (by simpa using hne)]
    exact ih i hn.2 h
 unfold sucs
 rw [hv G i hn h]
 rfl
theorem sucs_none {G : Gr} {s : ByteArray} (h : s ∉ G.names) : sucs G s = [] := by
 unfold sucs
 rw [List.find?_eq_none.2 fun x hx => by
  simp only [decide_eq_true_eq]
  exact fun e => h (List.mem_map.2 ⟨x, hx, e⟩)]
 rfl
section
variable {B mb : Nat} {W w' w3 : World} {G : Gr} {s t : ByteArray}
theorem GrI.fut (h : GrI B W mb G) (hf : Fut W w') : GrI B w' mb G := by
 obtain ⟨vs, h1, h2, h3, h4, h5, h6⟩ := h
 exact ⟨vs, h1, h2.fut hf, fun i v x a b => (h3 i v x a b).fut RNm.stays hf, h4, h5, h6⟩
theorem GrI.nodup (h : GrI B W mb G) : G.names.Nodup := by
 obtain ⟨vs, h1, h2, _⟩ := h
 have := h2.nodup
 rwa [zip_fst h1] at this
theorem GrI.sizes (h : GrI B W mb G) : ∀ q ∈ G.names, q.size ≤ 140737488351232 := fun q hq => by
 obtain ⟨vs, _, _, _, _, h5, _⟩ := h
 obtain ⟨x, hx, rfl⟩ := List.mem_map.1 hq
 exact (h5 x hx).1
theorem zip_ok {vs : List Value} (hs : ∀ q ∈ G.names, q.size ≤ 140737488351232) : ∀ p ∈ G.names.zip vs, p.1.size ≤ maxLen := fun p hp => Nat.le_trans (hs _ (List.of_mem_zip hp).1) (by unfold maxLen; omega)
theorem GrI.look (h : GrI B W mb G) (hs : s.size ≤ 140737488351232) : ∃ v, Nms B W v (sucs G s) ∧ ∀ W', Fut W W' → (Instr.lookup tG (.map (some mb)) (.string s) false).run Tryz.prog W' = .ok v W' ∧ (Instr.lookup tG (.map (some mb)) (.string s) true).run Tryz.prog W' = .ok (.tuple #[v, .bool (decide (s ∈ G.names))]) W' := by
 have hz := h.sizes
 have hn := h.nodup
 obtain ⟨vs, h1, h2, h3, h4, h5, h6⟩ := h
 have HL := fun W' (hW : Fut W W') => (h2.fut hW).look (t := tG) keyStr (zip_ok hz) Tryz.underlying84 zeroSl (x := s) (Nat.le_trans hs (by unfold maxLen; omega))
 by_cases e : s ∈ G.names
 ·obtain ⟨i, S, hi2⟩ := names_at e
  have hlt := (List.getElem?_eq_some_iff.1 hi2).1
  have hv : vs[i]? = some (vs[i]'(by omega)) := List.getElem?_eq_getElem (by omega)
  generalize vs[i]'(by omega) = v at hv
  have hg := getE_at h2.nodup (zip_at hi2 hv)
  refine ⟨v, by rw [sucs_at hn hi2]; exact h3 i v _ hv hi2, fun W' hW => ?_⟩
  have := HL W' hW
  rw [show getE (G.names.zip vs) s = some v from hg] at this
  rw [decide_eq_true e]
  exact this
 ·have hg : getE (G.names.zip vs) s = none := getE_none fun p hp he => e (by rw [← he]; exact (List.of_mem_zip hp).1)
  refine ⟨.slice none 0 0, by rw [sucs_none e]; exact OwnL.nil, fun W' hW => ?_⟩
  have := HL W' hW
  rw [hg] at this
  rw [decide_eq_false e]
  exact this
theorem GrI.add (h : GrI B W mb G) (hs : s.size ≤ 140737488351232) (hn : s ∉ G.names) : ∃ w3, (Instr.mapUpdate tG (.map (some mb)) (.string s) (.slice none 0 0)).run Tryz.prog W = .ok () w3 ∧ W.grownBy w3 (some mb) ∧ GrI B w3 mb (addG G s) := by
 have hz := h.sizes
 obtain ⟨vs, h1, h2, h3, h4, h5, h6⟩ := h
 obtain ⟨w3, hr, h7, h8⟩ := h2.push (t := tG) keyStr (zip_ok hz) Tryz.underlying84 (x := s) (Nat.le_trans hs (by unfold maxLen; omega)) (fun p hp he => hn (by rw [← he]; exact (List.of_mem_zip hp).1)) (.slice none 0 0)
 have O : Only (fun k => k = mb) W w3 := Only.grown h8 fun k hk => (Option.some.inj hk).symm
 refine ⟨w3, hr, h8, vs ++ [.slice none 0 0], ?_, ?_, fun i v x hv hx => ?_, fun i j v u k hv hu hk hk2 => ?_, fun x hx => ?_, h6⟩
 ·unfold addG; rw [if_neg hn, List.length_append, List.length_append, h1]; rfl
 ·unfold addG
  rw [if_neg hn]
  have e1 : Gr.names (G ++ [(s, [])]) = G.names ++ [s] := by unfold Gr.names; rw [List.map_append]; rfl
  rw [e1, List.zip_append (by unfold Gr.names; rw [List.length_map]; omega)]
  exact h7
 ·unfold addG at hx
  rw [if_neg hn] at hx
  by_cases hi : i < G.length
  ·rw [List.getElem?_append_left (by omega)] at hv hx
   have h9 := h3 i v x hv hx
   exact h9.only (fun _ _ h => h) O fun k hk e => by
    obtain ⟨arr, hty⟩ := h9.typed k hk
    rw [e] at hty
    exact map_ne h2 hty rfl
  ·have : i = G.length := by
    have := (List.getElem?_eq_some_iff.1 hx).1
    simp at this
    omega
   subst this
   rw [List.getElem?_append_right (by omega)] at hv hx
   simp [h1] at hv hx
   subst hv; subst hx
   exact OwnL.nil
 ·have key : ∀ (i : Nat) v k, (vs ++ [Value.slice none 0 0])[i]? = some v → v.ownBlock = some k → vs[i]? = some v := fun i v k hv hk => by
   by_cases hi : i < vs.length
   ·rwa [List.getElem?_append_left hi] at hv
   ·have : i = vs.length := by
     have := (List.getElem?_eq_some_iff.1 hv).1
     simp at this
     omega
    subst this
    simp at hv
    subst hv
    cases hk
  exact h4 i j v u k (key i v k hv hk) (key j u k hu hk2) hk hk2
 ·unfold addG at hx
  rw [if_neg hn] at hx
  rcases List.mem_append.1 hx with hx | hx
  ·exact h5 x hx
  ·rw [List.mem_singleton] at hx
   subst hx
   exact ⟨hs, fun y hy => by cases hy⟩
end
end Go.Proofs.YtdjffkkbjbiihaaGreatDoor
namespace Go.Proofs.YtdjffkkbjbiihaaGreatDoor
open Go.RowKit Go.Maps Go.WideShapes
open Go.WideElems (Fit rd rg pl rd_val rg_of elemAt)
theorem sorted_graph {w : World} {mb : Nat} {l : List (ByteArray × Value)} (h : MapE strV w mb l) (hk : ∀ q ∈ l, q.1.size ≤ maxLen) (hb : l.length ≤ 8796093022207) :
  Calls Tryz.prog 81 #[.func (.func 195) #[] #[.pointer (some ⟨w.heap.size, 0, none⟩)]] (w.alloc (.cells #[.map (some mb)] tG))
   fun e w' => ∃ v, e = .returned v ∧ OwnL 1 (w.heap.size + 1) 9 RNm w' v (sortU cmpS (l.map (·.1))) ∧ Fut (w.alloc (.cells #[.map (some mb)] tG)) w' := by
 have hnd := h.nodup
 obtain ⟨es, clock, hbk, hst, hes⟩ := h
 have hlen : es.size = l.length := by
  have := congrArg List.length hes
  simpa using this
 have hkey : ∀ x ∈ es.toList, ∃ q ∈ l, x.key = strV q.1 := fun x hx => by
  have hm : (x.key, x.val) ∈ es.toList.map (fun e => (e.key, e.val)) := List.mem_map.2 ⟨x, hx, rfl⟩
  rw [hes] at hm
  obtain ⟨q, hq, e⟩ := List.mem_map.1 hm
  injection e with e1 _
  exact ⟨q, hq, e1.symm⟩
 have hrd : ∀ x ∈ es.toList, ∀ q ∈ l, x.key = strV q.1 → rd Tryz.prog 9 (fun _ => some ((DataW.nil : DataW Unit), [])) x = some (.string q.1.data.toList, .nil) := fun x _ q hq e => by
  unfold rd
  rw [e, keyOf_str (hk q hq)]; rfl
 have F : Fit Tryz.prog 9 (fun _ => some ((DataW.nil : DataW Unit), [])) es clock := ⟨by unfold maxLen; omega, hst, fun x hx => by
  obtain ⟨q, hq, e⟩ := hkey x hx
  exact ⟨_, hrd x hx q hq e⟩⟩
 have hown := World.ownsMap_of_fit (R := fun _ => some ((DataW.nil : DataW Unit), [])) hbk F (fun _ _ _ h => h)
 have hsz : Maps.size (DataW.map ((es.toList.map (rg Tryz.prog 9 (fun _ => some ((DataW.nil : DataW Unit), [])))).foldr DataW.insert [])) = es.size := by simp [Maps.size, length_read]
 have hperm : (strKeys (DataW.map ((es.toList.map (rg Tryz.prog 9 (fun _ => some ((DataW.nil : DataW Unit), [])))).foldr DataW.insert []))).Perm ((l.map (·.1)).map (·.data.toList)) := by
  show (((es.toList.map (rg Tryz.prog 9 (fun _ => some ((DataW.nil : DataW Unit), [])))).foldr DataW.insert []).map fun p => strOf p.1).Perm _
  refine ((sorted_perm _).map _).trans ?_
  rw [List.map_map, List.map_map]
  have e2 : ∀ (xs : List MapEntry) (ql : List (ByteArray × Value)), (∀ x ∈ xs, x ∈ es.toList) → (∀ q ∈ ql, q ∈ l) → xs.map (fun e => (e.key, e.val)) = ql.map (fun p => (strV p.1, p.2)) →
    xs.map ((fun p => strOf p.1) ∘ rg Tryz.prog 9 (fun _ => some ((DataW.nil : DataW Unit), []))) = ql.map ((fun x => x.data.toList) ∘ fun x => x.1) := by
   intro xs
   induction xs with
   | nil => intro ql _ _ e; cases ql with
    | nil => rfl
    | cons a r => simp at e
   | cons x xs ih => intro ql h1 h2 e; cases ql with
    | nil => simp at e
    | cons q ql =>
     simp only [List.map_cons, List.cons.injEq, Prod.mk.injEq] at e
     rw [List.map_cons, List.map_cons, ih ql (fun y hy => h1 y (List.mem_cons_of_mem _ hy)) (fun y hy => h2 y (List.mem_cons_of_mem _ hy)) e.2]
     have h9 := rg_of (hrd x (h1 x List.mem_cons_self) q (h2 q List.mem_cons_self) e.1.1)
     simp only [Function.comp, h9, strOf]
  rw [e2 es.toList l (fun x hx => hx) (fun q hq => hq) hes]
 refine (callsIn_wide.1 (Tryz.slices_Sorted_keys_81_83 mb _ _ _ w hown (by rw [hsz]; unfold maxLen; omega) (by rw [hsz]; omega))).mono ?_
 rintro e w' ⟨v, ss, rfl, hS, hrow, _, hbw⟩
 have hm := merge_names (hS.trans hperm) hnd
 have ho := names_of_row (by rw [List.length_mergeSort]) hrow
 rw [hm] at ho
 have hs1 : (w.alloc (.cells #[.map (some mb)] tG)).heap.size = w.heap.size + 1 := by simp
 rw [hs1] at ho
 exact ⟨v, rfl, ho, hbw⟩
def Gr.sorted (G : Gr) : List ByteArray := sortU cmpS G.names
set_option maxHeartbeats 1000000 in
theorem names_any {B mb : Nat} {G : Gr} (w : World) (h : GrI B w mb G) (hb : G.length ≤ 100000000) :
  Calls Tryz.prog 25 #[.map (some mb)] w fun e w' => ∃ v, e = .returned v ∧ Nms w.heap.size w' v G.sorted ∧ Fut w w' := by
 have HK := fun W => (callsIn_wide.1 (Tryz.maps_Keys_83 (some mb) W))
 have hz := h.sizes
 obtain ⟨vs, h1, h2, _⟩ := h
 have HS := Lib.hid (sorted_graph h2 (zip_ok hz) (by rw [List.length_zip]; omega))
 rw [zip_fst h1] at HS
 have f0 := Fut.alloc w (.cells #[.map (some mb)] tG)
 clear h1 h2 hz
 replace HK := Lib.hid HK
 go_enter Tryz.func25, Tryz.ntmps25
 go_wp2_with fail
 refine (HK.out _).mono ?_
 rintro e w1 ⟨rfl, rfl⟩
 go_wp2_with fail
 refine HS.out.mono ?_
 rintro e w2 ⟨v, rfl, hv, hf⟩
 have HF := Lib.hid (And.intro (hv.base (Nat.le_succ _)) (f0.trans hf))
 clear hv hf
 go_wp2
 go_ret
 exact ⟨_, rfl, HF.out⟩
end Go.Proofs.YtdjffkkbjbiihaaGreatDoor
namespace Go.Proofs.YtdjffkkbjbiihaaGreatDoor
open Go.RowKit Go.Maps Go.WideShapes Go.Shelf
attribute [local go_sem] Oper.semAt_some
theorem enc_name (x : ByteArray) : encStr x.data.toList = .string x := by
 unfold encStr
 simp
set_option maxRecDepth 100000 in
set_option maxHeartbeats 2000000 in
theorem values1_in {M m : Nat} (l Bs : Nat) (A : Option Addr) (c : Nat) (xs : List ByteArray) (w : World) (hsl : SlRep 1 M RNm w (.slice A xs.length c) xs) (hM : M ≤ 9223372036854775807) (hBs : w.cell? ⟨Bs, 0, none⟩ = some (.slice A xs.length c))
  (J : List (List UInt8) → World → Prop) (hJ : ∀ s W1, J s W1 → Fut w W1) (hY : ∀ pre x W1, J pre W1 → pre.length < xs.length → YieldAt Fence.wide m Tryz.prog l #[encStr x] W1 fun e W' => e = .returned (.bool true) ∧ J (pre ++ [x]) W') (W : World) (h0 : J [] W) :
  CallsIn Fence.wide (m + 1) Tryz.prog 194 #[.func (.yield l) #[] #[], .pointer (some ⟨Bs, 0, none⟩)] W fun e W' => (∃ v, e = .returned v) ∧ J (xs.map (·.data.toList)) W' := by
 obtain ⟨_, _, _, hl1, hl2⟩ := hsl.form
 have hxl : xs.length ≤ 9223372036854775807 := by omega
 have y0 := (hJ _ _ h0).cell hBs
 refine callsIn_of_wp Tryz.func194 rfl trivial ?_ rfl
 simp only [Tryz.ntmps194, List.size_toArray, List.length_cons, List.length_nil, Nat.reduceAdd, Nat.reduceSub, Array.replicate_succ, Array.replicate_zero, List.push_toArray, List.append_toArray, List.nil_append, List.cons_append]
 gi_wp2
 gi_loopw [7] (fun i wr => ∃ k : Nat, k ≤ xs.length ∧ i = .int .i64 k ∧ J ((xs.take k).map (·.data.toList)) wr) (fun i _ => xs.length - (intOf i).toNat)
 case atStart => exact ⟨0, Nat.zero_le _, rfl, h0⟩
 case round =>
  obtain ⟨k, hk, rfl, hJs⟩ := hrel
  by_cases hlt : k < xs.length
  ·have hltI : (k : Int) < xs.length := by omega
   have e0 : (0 : Int) ≤ k ∧ (k : Int) < xs.length := by omega
   obtain ⟨b, off, rfl, z0⟩ := nm_at hsl hlt
   have z1 := (hJ _ _ hJs).cell z0
   have hnx := Lib.hid (show (xs.take (k + 1)).map (·.data.toList) = (xs.take k).map (·.data.toList) ++ [(xs[k]).data.toList] by rw [List.take_succ_eq_append_getElem hlt, List.map_append]; rfl)
   obtain ⟨fn, tmps, assign, body, hy, hR⟩ := hY _ (xs[k]).data.toList wr hJs (by rw [List.length_map, List.length_take]; omega)
   rw [enc_name] at hy
   generalize xs[k] = x at *
   gi_wp2
   refine hR.mono ?_
   rintro e W3 ⟨rfl, hJ3⟩
   rw [← hnx.out] at hJ3
   gi_wp2
   go_roundw
   case rel => exact ⟨k + 1, by omega, by go_num, hJ3⟩
   case measure => simp [intOf] <;> omega
  ·obtain rfl : k = xs.length := by omega
   rw [List.take_length] at hJs
   gi_wp2
   go_end0
   exact ⟨⟨_, rfl⟩, hJs⟩
abbrev rhoS := Tryz.sorted81_ren
set_option maxRecDepth 100000 in
set_option maxHeartbeats 2000000 in
theorem appendV_in {M : Nat} (Bv : Nat) (A : Option Addr) (c : Nat) (xs : List ByteArray) (w : World) (hsl : SlRep 1 M RNm w (.slice A xs.length c) xs) (hM : M ≤ 9223372036854775807) (hBs : w.cell? ⟨Bv, 0, none⟩ = some (.slice A xs.length c)) (hl : xs.length ≤ 1000000000) :
  CallsIn Fence.wide 3 Tryz.prog 248 #[.slice none 0 0, .func (.func 194) #[] #[.pointer (some ⟨Bv, 0, none⟩)]] w fun e w' => ∃ v, e = .returned v ∧ w'.ownsRow w.heap.size 9 1 v xs.length ((xs.map (·.data.toList)).map encStr) ∧ (v = .slice none 0 0 ↔ xs.map (·.data.toList) = []) ∧ Fut w w' := by
 have L := Tryz.sorted81
 have eg : ∀ args W, (callFunc 194 args).run Tryz.prog W = .ok (.enter 194 args) W := fun args W => by kernel_rfl
 have hro : Fence.wide.round = none := rfl
 refine callsIn_of_wp_marks Tryz.func248 rfl trivial ?_ hro
 simp only [Tryz.ntmps248, List.size_toArray, List.length_cons, List.length_nil, Nat.reduceAdd, Nat.reduceSub, Array.replicate_succ, Array.replicate_zero, List.push_toArray, List.append_toArray, List.nil_append, List.cons_append]
 gi_wp2
 refine wpIn_rangeFunc ?_
 intro fn hfn
 rw [hro]
 -- the box of what has come; the deferred list; the loop's record
 obtain ⟨Wb, hWb⟩ : ∃ W, w.alloc (.cells #[.slice none 0 0] 94) = W := ⟨_, rfl⟩
 have zb : Wb.heap.size = w.heap.size + 1 := by rw [← hWb]; simp
 have bb : Wb.heap[w.heap.size]? = some (.cells #[.slice none 0 0] 94 (0, 0)) := by rw [← hWb]; exact heap_alloc_new w _
 have fb : Fut w Wb := by rw [← hWb]; exact Fut.alloc _ _
 rw [hWb]
 obtain ⟨sv, hsv⟩ : ∃ v, Value.func (.func 194) #[] #[.pointer (some ⟨Bv, 0, none⟩)] = v := ⟨_, rfl⟩
 obtain ⟨rec, hrec⟩ : ∃ r, AnyZ.apRec rhoS fn sv w.heap.size Wb.heap.size .ready none = r := ⟨_, rfl⟩
 obtain ⟨Wl, hWl⟩ : ∃ W, (Wb.alloc (.deferred (some []))).alloc (.loop rec) = W := ⟨_, rfl⟩
 have f1 := Fut.alloc Wb (.deferred (some []))
 have f2 := Fut.alloc (Wb.alloc (.deferred (some []))) (.loop rec)
 have zd : (Wb.alloc (.deferred (some []))).heap.size = Wb.heap.size + 1 := by simp
 have dl : Wl.heap[Wb.heap.size]? = some (.deferred (some [])) := by rw [← hWl]; exact f2.block (heap_alloc_new Wb _)
 have ll : Wl.heap[Wb.heap.size + 1]? = some (.loop rec) := by
  rw [← hWl]
  have := heap_alloc_new (Wb.alloc (.deferred (some []))) (.loop rec)
  rwa [zd] at this
 have fl : Fut Wb Wl := by rw [← hWl]; exact f1.trans f2
 have H0 : AnyZ.ApAt rhoS w fn sv w.heap.size (Wb.heap.size + 1) Wb.heap.size [] Wl :=
  ⟨⟨_, fl.block bb, ⟨rfl, .inl ⟨rfl, rfl⟩⟩, by simp⟩, by rw [ll, ← hrec], dl, fb.trans fl⟩
 refine ⟨Wb.heap.size + 1, [{ target := .collected Wb.heap.size, args := #[] }], Wl, { target := .fn (.func 194) #[.pointer (some ⟨Bv, 0, none⟩)], args := #[.func (.yield (Wb.heap.size + 1)) #[] #[]] }, Wl, 194,
  #[.func (.yield (Wb.heap.size + 1)) #[] #[]] ++ #[.pointer (some ⟨Bv, 0, none⟩)], Wl, ?_, ?_, ?_, ?_, fun _ => by decide, ?_⟩
 ·rw [← hWl, ← hrec, ← hsv]; exact run_enterLoop_outer _ _ _ _ _
 ·simp [resolve, go_sem]
 ·intro f' hf'; simp [Target.leads] at hf'; subst hf'; trivial
 ·simp [invoke, go_sem, eg]
 ·refine (values1_in (m := 1) (Wb.heap.size + 1) Bv A c xs w hsl hM hBs (AnyZ.ApAt rhoS w fn sv w.heap.size (Wb.heap.size + 1) Wb.heap.size) (fun s W1 h => h.below)
   (fun pre x W1 hJ hlt => ?_) Wl H0).mono ?_
  ·obtain ⟨a1, a2, a3, a4, a5, a6⟩ := AnyZ.apYield { L with } Fence.wide 1 w fn hfn sv w.heap.size (Wb.heap.size + 1) Wb.heap.size (by omega) (by omega) (by omega) (Nat.le_refl _) (by omega) 1000000000 (by unfold maxLen; omega) (by omega) pre x W1 hJ (by omega)
   exact ⟨a1, a2, a3, a4, a5, a6.mono fun e W' h => ⟨h.1, h.2.1⟩⟩
  ·rintro e W2 ⟨⟨v0, rfl⟩, h2⟩
   obtain ⟨v, hv, hrow, hnil⟩ := h2.box
   have hne : 94 ≠ 9 := by decide
   have hend := run_endLoop (P := Tryz.prog) h2.L (by simp [AnyZ.apRec])
   obtain ⟨W3, hW3⟩ : ∃ W, W2.putObj (Wb.heap.size + 1) (.loop { AnyZ.apRec rhoS fn sv w.heap.size Wb.heap.size .ready none with state := .exhausted }) = W := ⟨_, rfl⟩
   rw [hW3] at hend
   have g3 : W2.grownBy W3 (some (Wb.heap.size + 1)) := by rw [← hW3]; exact grownBy_putObj_a _ _ _
   have hv3 : W3.heap[w.heap.size]? = some (.cells #[v] 94 (0, 0)) := by rw [← hW3]; exact (World.putObj_heap_other (by omega)).trans hv
   have hK3 : W3.heap[Wb.heap.size]? = some (.deferred (some [])) := by rw [← hW3]; exact (World.putObj_heap_other (by omega)).trans h2.K
   have hrow3 := hrow.kept g3 (ownsRow_ne_a hrow h2.L (fun cur e => by cases e))
   have hb3 : Fut w W3 := Below.grown h2.below g3 h2.below.size (fun k e => by cases e; omega)
   obtain ⟨hc3, hf3⟩ := cell_of_box_a hv3
   clear hW3
   rw [List.length_map] at hrow3
   refine ⟨none, W3, hend, ?_⟩
   gi_wp2
   rw [← zb]
   refine ⟨by simp, .inl ⟨_, _, rfl, run_takeDeferred hK3, ?_⟩⟩
   have hg4 := grownBy_putObj_a W3 Wb.heap.size (.deferred none)
   exact ⟨_, results_tmp rfl _ _ _, v, rfl, hrow3.kept (grownBy_putObj_a _ _ _) (ownsRow_ne_a hrow3 hK3 (fun cur e => by cases e)), hnil, Below.grown hb3 (grownBy_putObj_a _ _ _) hb3.size (fun k e => by cases e; omega)⟩
end Go.Proofs.YtdjffkkbjbiihaaGreatDoor
