/- PairB, OnIn, Amid, OnD, Plays, RelationPlays -/
import Derived.Test.YtcekphjcmippoaaC22
/- Two new relations side by side; a both beside another one in the same block. -/
namespace Go.Proofs.Ytcekphjcmippoaa
open Go.RowKit Go.WideMaps
set_option linter.unusedSimpArgs false
set_option linter.unusedVariables false

def newS (a : Int) : Option RSt := if 0 ≤ a ∧ a ≤ 24 then some ⟨a.toNat, 0, []⟩ else none
def newE (a : Int) : Int := if 0 ≤ a ∧ a ≤ 24 then 0 else 1
theorem rows_new (a : Int) : rowsS (newS a) = [] := by unfold newS; split <;> rfl
theorem gone_new (a : Int) : goneS (newS a) = 0 := by unfold newS; split <;> rfl
theorem clone_new (a : Int) : cloneS (newS a) = newS a := by unfold newS; split <;> rfl
theorem T_new (a : Int) (w : World) : Calls Try.prog 23 #[.int .i64 a] w fun e w' => ∃ p, e = .returned (.tuple #[.pointer p, .int .i64 (newE a)]) ∧ TAt w.heap.size w' p (newS a) (made w w') ∧ (p = none ↔ newS a = none) ∧ Fut w w' := by
  by_cases h : 0 ≤ a ∧ a ≤ 24
  · obtain ⟨n, rfl⟩ : ∃ n : Nat, a = n := ⟨a.toNat, by omega⟩
    rw [show newS (n : Int) = some ⟨n, 0, []⟩ by unfold newS; rw [if_pos h]; simp, show newE (n : Int) = 0 by unfold newE; rw [if_pos h]]
    refine (new_any n (by omega) w).mono ?_
    rintro e w' ⟨b, pb, mb, rfl, hR, hf⟩
    exact ⟨_, rfl, ⟨⟨b, pb, mb, _, rfl, hR, fun k hk => ⟨hR.ge k hk, hR.lt k hk⟩⟩, fun k hk => hk.2⟩, by simp, hf⟩
  · rw [show newS a = none by unfold newS; rw [if_neg h], show newE a = 1 by unfold newE; rw [if_neg h]]
    refine (new_bad a (by omega) w).mono ?_
    rintro e w' ⟨rfl, h2⟩
    exact ⟨none, rfl, ⟨⟨.inl rfl, fun b hb => (by cases hb)⟩, fun k hk => hk.2⟩, by simp, h2 ▸ Fut.refl _⟩
theorem D_new (a : Int) (w : World) : Calls Try.prog 24 #[.int .i64 a] w fun e w' => ∃ p, e = .returned (.tuple #[.pointer p, .int .i64 (newE a)]) ∧ DAt w.heap.size w' p (newS a) (made w w') ∧ (p = none ↔ newS a = none) ∧ Fut w w' := by
  by_cases h : 0 ≤ a ∧ a ≤ 24
  · obtain ⟨n, rfl⟩ : ∃ n : Nat, a = n := ⟨a.toNat, by omega⟩
    rw [show newS (n : Int) = some ⟨n, 0, []⟩ by unfold newS; rw [if_pos h]; simp, show newE (n : Int) = 0 by unfold newE; rw [if_pos h]]
    refine (rnew_any n (by omega) w).mono ?_
    rintro e w' ⟨b, rfl, hR, hf⟩
    exact ⟨_, rfl, ⟨⟨b, _, rfl, hR, (by show n ≤ 24; omega), List.nodup_nil, fun k hk => ⟨hR.ge k hk, hR.lt k hk⟩⟩, fun k hk => hk.2⟩, by simp, hf⟩
  · rw [show newS a = none by unfold newS; rw [if_neg h], show newE a = 1 by unfold newE; rw [if_neg h]]
    refine (rnew_bad a (by omega) w).mono ?_
    rintro e w' ⟨rfl, h2⟩
    exact ⟨none, rfl, ⟨rfl, fun k hk => hk.2⟩, by simp, h2 ▸ Fut.refl _⟩
section
variable {B : Nat} {w w' : World} {bb off : Nat} {S : Option RSt} {O G FT FD : Nat → Prop} {p q : Option Addr} {kv : Value} {f t : Int}
theorem BothAt.beside {lo hi : Nat} (h : BothAt B w bb off S O p q kv f t FT FD) (hf : Only (fun k => G k ∨ k = bb) w w') (hd : ∀ k, O k → ¬ G k) (hs : SameBut w w' bb lo hi) (hlo : off + 5 ≤ lo ∨ hi ≤ off) : BothAt B w' bb off S O p q kv f t FT FD := by
  obtain ⟨arr, ty, h0, hr⟩ := h.blk
  obtain ⟨arr', h0', he⟩ := hs arr ty h0
  have hd' : ∀ k, O k → ¬ (G k ∨ k = bb) := fun k hk => fun h' => h'.elim (hd k hk) fun e => h.nb (e ▸ hk)
  refine ⟨⟨arr', ty, h0', ?_⟩, h.T.only hf fun k hk => hd' k (h.fO k hk), h.D.only hf fun k hk => hd' k (h.dO k hk), h.fO, h.dO, h.dis, h.nb, fun k hk => Nat.lt_of_lt_of_le (h.lt k hk) hf.size, Nat.le_trans h.base hf.size, ?_⟩
  · obtain ⟨r0, r1, r2, r3, r4⟩ := hr
    refine ⟨?_, ?_, ?_, ?_, ?_⟩
    · rw [he _ (by omega)]; exact r0
    · rw [he _ (by omega)]; exact r1
    · rw [he _ (by omega)]; exact r2
    · rw [he _ (by omega)]; exact r3
    · rw [he _ (by omega)]; exact r4
  · rcases h.kept with h1 | ⟨lb, h1, b1, b2, b3, h2, h3, h4, h5, h6⟩
    · exact .inl h1
    · exact .inr ⟨lb, h1, b1, b2, b3, h2, hf.cell h3 (hd' _ (h6 b1 (.inl rfl)).1), hf.cell h4 (hd' _ (h6 b2 (.inr (.inl rfl))).1), hf.cell h5 (hd' _ (h6 b3 (.inr (.inr rfl))).1), h6⟩
end
/-- A both stored in the midst of a block. -/
theorem exec_store_bothM {op : Oper} {a : Act} {w : World} {b off : Nat} {p q : Option Addr} {t : TypeId} {arr : Array Value} (x y : Operand) (ho : op.op = .store 60 x y) (hx : a.eval x = .pointer (some ⟨b, off, none⟩)) (hy : a.eval y = bothV p q) (hb : w.heap[b]? = some (.cells arr t (0, 0))) (hs : off + 5 ≤ arr.size) :
    ∃ arr' : Array Value, (execOp a.eval op).run Try.prog w = .ok .skip (w.putObj b (.cells arr' t (0, 0))) ∧ ∀ j, arr'[j]? = if off ≤ j ∧ j < off + 5 then (bothCells p q)[j - off]? else arr[j]? := by
  have hi : (Try.prog.info? 60).map (·.size) = some 5 := by kernel_rfl
  have h1 := run_storeVar_mid (P := Try.prog) w b off 60 (bothCells p q) (fun j hj => by
    have hj2 : j < 5 := hj
    have hj' : off + j < arr.size := by omega
    refine ⟨?_, ?_⟩
    · simp [World.cell?, hb, hj']
    · simp [World.frozen?, hb]) (by rw [hi]; rfl) (all_oneCell_toArray (cs := [.pointer p, .pointer q, .nilFunc, .int .i64 0, .int .i64 0]) fun v hv => by
    simp only [List.mem_cons, List.not_mem_nil, or_false] at hv
    rcases hv with rfl | rfl | rfl | rfl | rfl <;> rfl)
  obtain ⟨arr', h2, h3, h4⟩ := setCells_put (bothCells p q).toList off w arr hb
  refine ⟨arr', ?_, fun j => ?_⟩
  · rw [h2] at h1
    unfold execOp
    simp only [ho, hx, hy, bothV, Instr.storeAt, Instr.sureAddr, Sem.run_bind, Sem.run_pure, Result.andThen_ok, h1]
  · rw [h4]
    have hl5 : (bothCells p q).toList.length = 5 := rfl
    by_cases hj : off ≤ j ∧ j < off + 5
    · rw [if_pos hj, if_pos (by rw [hl5]; omega)]; simp
    · rw [if_neg hj, if_neg (by rw [hl5]; omega)]
theorem wpList_store_bothM {ops : Array Oper} {rest : List Oper} {Q : Exit → Act → World → Prop} {op : Oper} {a : Act} {w : World} (hgd : Region.wanted op (yielded ops a.tmps) = true) {b off : Nat} {p q : Option Addr} {t : TypeId} {arr : Array Value} (x y : Operand) (ho : op.op = .store 60 x y) (hx : a.eval x = .pointer (some ⟨b, off, none⟩)) (hy : a.eval y = bothV p q) (hb : w.heap[b]? = some (.cells arr t (0, 0))) (hs : off + 5 ≤ arr.size)
    (h : ∀ arr' : Array Value, (∀ j, arr'[j]? = if off ≤ j ∧ j < off + 5 then (bothCells p q)[j - off]? else arr[j]?) → wpList Try.prog ops Q rest (a.put op.dst undef) (w.putObj b (.cells arr' t (0, 0)))) : wpList Try.prog ops Q (op :: rest) a w := by
  obtain ⟨arr', h1, h2⟩ := exec_store_bothM x y ho hx hy hb hs
  exact wpList_of_skip hgd h1 (h arr' h2)
/-- The pair laid into a both in the midst of a block that lay there before. -/
theorem both_ofM {B : Nat} {W w : World} {S : Option RSt} {p q : Option Addr} {F1 F2 : Nat → Prop} {b off : Nat} {t : TypeId} {arr arr' : Array Value} (h : Pair B W S w p q F1 F2) (hlt : b < W.heap.size) (hW : W.heap.size ≤ w.heap.size) (hB : B ≤ w.heap.size) (ha : ∀ j, arr'[j]? = if off ≤ j ∧ j < off + 5 then (bothCells p q)[j - off]? else arr[j]?) :
    BothAt B (w.putObj b (.cells arr' t (0, 0))) b off (cloneS S) (fun k => F1 k ∨ F2 k) p q .nilFunc 0 0 F1 F2 := by
  obtain ⟨h1, h2, h3, h4, h5⟩ := h
  have hne : ∀ k, F1 k ∨ F2 k → ¬ k = b := fun k hk e => by have := (h4 k hk).1; omega
  have O1 : Only (fun k => k = b) w (w.putObj b (.cells arr' t (0, 0))) := Only.put (S := fun k => k = b) _ _ rfl
  have hc : ∀ i, i < 5 → arr'[off + i]? = (bothCells p q)[i]? := fun i hi => by rw [ha, if_pos (by omega), Nat.add_sub_cancel_left]
  refine ⟨⟨_, _, World.putObj_heap_same (by omega), ?_, ?_, ?_, ?_, ?_⟩, h1.only O1 fun k hk => hne k (.inl hk), h2.only O1 fun k hk => hne k (.inr hk), fun k hk => .inl hk, fun k hk => .inr hk, h3, fun hk => hne b hk rfl, fun k hk => Nat.lt_of_lt_of_le (hk.elim (h1.lt k) (h2.lt k)) O1.size, Nat.le_trans hB O1.size, .inl rfl⟩
  · have := hc 0 (by omega); rw [Nat.add_zero] at this; rw [this]; rfl
  · rw [hc 1 (by omega)]; rfl
  · rw [hc 2 (by omega)]; rfl
  · rw [hc 3 (by omega)]; rfl
  · rw [hc 4 (by omega)]; rfl
end Go.Proofs.Ytcekphjcmippoaa
/-
  The rule of XOn within a round. Printed by gonin.py.
-/
namespace Go.Proofs.Ytcekphjcmippoaa.On
open Go.RowKit
set_option linter.unusedSimpArgs false
set_option linter.unusedVariables false
variable [Mut]
section
variable {P : Program} {ops : Array Oper} {n : Nat} {sp : Nat → Sp} {a0 : Act} {w0 : World} {vs : Nat → Value} {listed : Array Bool} {a : Act} {w : World}

theorem GInv.stepIn {l : Nat} {m : Nat} {full : List (Option Tmp × Sp)} {i : Nat} {Q : Exit → Act → World → Prop} {K : Act → World → Prop} (inv : GInv ops n sp a0 w0 vs listed a w) (hB : graphB ops n = true) (hnD : noDeferB ops = true)
    (hbd : ∀ k d, dstAt ops k = some d → k < n → d < a0.tmps.size) (hjB : jB Mut.jm Mut.js ops n = true ∨ ∀ x w, Mut.J x w) (hDB : ∀ i j o, ops[i]? = some o → Mut.D i j = true → dep o j = true)
    (hsp : ∀ k, k < n → full[k]? = some (dstAt ops k, sp k)) (_hfl : full.length = n) (hmono : ∀ k, k < n → Mono k (sp k))
    (hob : ∀ o, ops[i]? = some o → ∀ w, Mut.H i w0 w → lexAct o w (fun a => givesG i P ops o a (sp i) w) 0 (full.take i) a0)
    (hi : i ∈ Region.ready .any ops listed) (hin : i < n)
    (hK : ∀ v a' w', GInv ops n sp a0 w0 (fun k => if k = i then v else vs k) (listed.setIfInBounds i true) a' w' → K a' w') : wpOpIn (Fence.wide.inRound l) m P ops Q i K a w := by
  obtain ⟨hsel, hns, hg⟩ := graphB_spec hB
  obtain ⟨hun, o, ho, hall⟩ := mem_ready.1 hi
  obtain ⟨o', ho', hedge, hdist, hlook⟩ := hg i hin
  obtain rfl : o = o' := Option.some.inj (ho.symm.trans ho')
  have hunf : listed.getD i false = false := getD_both hun
  have hdep : ∀ k, dep o k = true → listed.getD k false = true := fun k hk => by
    obtain ⟨e, he, hb, rfl⟩ := dep_spec hk
    exact hall e he hb
  have hlex := lexAct_inst vs _ 0 a0 (hob o ho w (inv.hist i hunf)) fun j d S hj hd => by
    rw [Nat.zero_add] at hd ⊢
    rw [List.getElem?_take] at hj
    split at hj
    · rename_i hji
      have h1 := hsp j (by omega)
      rw [hj] at h1
      simp only [Option.some.injEq, Prod.mk.injEq] at h1
      have := inv.held j (by omega) (hdep j hd)
      rw [← h1.2] at this
      exact this
    · cases hj
  have hslot : ∀ t ∈ o.looksAt ops, a.tmps[t]? = (putAll vs 0 (full.take i) a0).tmps[t]? := fun t ht => by
    by_cases hex : ∃ k, k < i ∧ dstAt ops k = some t
    · obtain ⟨k, hki, hkd⟩ := hex
      have hkn : k < n := by omega
      have hkl := hdep k ((hlook t ht k hkn hkd).1 hki)
      have h1 : (full.take i)[k]? = some (some t, sp k) := by rw [List.getElem?_take, if_pos hki, hsp k hkn, hkd]
      rw [inv.slot k t hkn hkl hkd, putAll_at vs t _ 0 a0 k (sp k) (hbd k t hkd hkn) h1, Nat.zero_add]
      · have h2 := inv.held k hkn hkl
        cases hs : sp k with
        | det c => rw [hs] at h2; simp only [Sp.holds] at h2; rw [h2]; rfl
        | rel S => rfl
      · intro j d s' hj hd
        rw [List.getElem?_take] at hj
        split at hj
        · rename_i hji
          rw [hsp j (by omega)] at hj
          simp only [Option.some.injEq, Prod.mk.injEq] at hj
          have hjd : dstAt ops j = some t := hj.1.trans hd
          rcases Nat.lt_trichotomy j k with h' | h' | h'
          · obtain ⟨ok, hok, _, hd2, _⟩ := hg k hkn
            exact absurd hjd (hd2 t (by simpa [dstAt, hok] using hkd) j h')
          · exact h'
          · obtain ⟨oj, hoj, _, hd2, _⟩ := hg j (by omega)
            exact absurd hkd (hd2 t (by simpa [dstAt, hoj] using hjd) k h')
        · cases hj
    · rw [putAll_other]
      · refine inv.free t fun k hkn hkl hkd => ?_
        rcases Nat.lt_trichotomy k i with h' | h' | h'
        · exact hex ⟨k, h', hkd⟩
        · subst h'; rw [hunf] at hkl; cases hkl
        · obtain ⟨ok, hok, hdk⟩ := (hlook t ht k hkn hkd).2 h'
          obtain ⟨e, he, hb, hei⟩ := dep_spec hdk
          have := inv.closed k ok hok hkl e he hb
          rw [hei, hunf] at this
          cases this
      · intro d s hm hd
        obtain ⟨j, hj⟩ := List.getElem?_of_mem hm
        rw [List.getElem?_take] at hj
        split at hj
        · rename_i hji
          rw [hsp j (by omega)] at hj
          simp only [Option.some.injEq, Prod.mk.injEq] at hj
          exact hex ⟨j, hji, hj.1.trans hd⟩
        · cases hj
  have hexec : execOp a.eval o = execOp (putAll vs 0 (full.take i) a0).eval o := execOp_congr o (fun cs b => Region.noSelect_spec hsel i o cs b ho) fun x hx => by
    cases x with
    | tmp t =>
      have := hslot t (List.mem_append_left _ (List.mem_filterMap.2 ⟨.tmp t, by simpa using hx, rfl⟩))
      simp only [Act.eval, Array.getD_eq_getD_getElem?, this]
    | _ => rfl
  have hwant : Region.wanted o (yielded ops a.tmps) = Region.wanted o (yielded ops (putAll vs 0 (full.take i) a0).tmps) := by
    unfold Region.wanted
    cases hgd : o.guard with
    | none => rfl
    | some gw =>
      obtain ⟨g, want⟩ := gw
      have hy : yielded ops a.tmps g = yielded ops (putAll vs 0 (full.take i) a0).tmps g := by
        unfold yielded
        cases ht : (ops[g]?).bind (·.dst) with
        | none => rfl
        | some t =>
          have := hslot t (by simp [Oper.looksAt, hgd, ht])
          simp only [Option.bind_some, this]
      simp only [hy]
  have hdi : dstAt ops i = o.dst := by simp [dstAt, ho]
  have hnW : ∀ k, listed.getD k false = true → Mut.D k i = false := fun k hl => by
    cases hd : Mut.D k i with
    | false => rfl
    | true =>
      have hks : k < ops.size := by
        rw [← inv.lsize]
        rcases Nat.lt_or_ge k listed.size with h' | h'
        · exact h'
        · rw [Array.getD_eq_getD_getElem?, Array.getElem?_eq_none h'] at hl; cases hl
      obtain ⟨e, he, hb, hei⟩ := dep_spec (hDB k i _ (Array.getElem?_eq_getElem hks) hd)
      have := inv.closed k _ (Array.getElem?_eq_getElem hks) hl e he hb
      rw [hei, hunf] at this
      cases this
  have hnew : ∀ v w', EffJ i ((putAll vs 0 (full.take i) a0).tmps.getD Mut.js undef) w w' → (sp i).holds v w' → GInv ops n sp a0 w0 (fun k => if k = i then v else vs k) (listed.setIfInBounds i true) (a.put o.dst v) w' := fun v w' hf hv => by
    have hil : i < listed.size := by rw [inv.lsize]; omega
    have hset : ∀ k, k ≠ i → (listed.setIfInBounds i true).getD k false = listed.getD k false := fun k hk => getD_set_ne false (Ne.symm hk)
    refine ⟨by rw [put_size]; exact inv.size, by rw [put_defers']; exact inv.defers, inv.fut.trans hf.1.2, fun t ht => ?_, fun k hk hl => ?_, fun k d hk hl hd => ?_, by simp [inv.lsize], fun j oj hj hl e he hb => ?_, fun t ht ht' => by rw [getD_set_ne true (by omega)]; exact inv.tail t ht ht', fun j hj => ?_, fun hj => ?_⟩
    · have hit : o.dst ≠ some t := by rw [← hdi]; exact ht i hin (by simp [hil])
      rw [put_other _ _ _ _ hit]
      refine inv.free t fun k hk hl => ht k hk ?_
      by_cases hki : k = i
      · subst hki; simp [hil]
      · rw [hset k hki]; exact hl
    · by_cases hki : k = i
      · subst hki; simpa using hv
      · simp only [hki, if_false]
        rw [hset k hki] at hl
        exact holds_mono (hmono k hk) (hf.1.1.2 k hki (hnW k hl)) (inv.held k hk hl)
    · by_cases hki : k = i
      · subst hki
        have hod : o.dst = some d := by rw [← hdi]; exact hd
        rw [hod]
        show _ = some (if k = k then v else vs k)
        rw [if_pos rfl]
        exact put_same _ _ _ (by rw [inv.size]; exact hbd k d hd hk)
      · simp only [hki, if_false]
        rw [hset k hki] at hl
        rw [put_other]
        · exact inv.slot k d hk hl hd
        · intro hod
          have hid : dstAt ops i = some d := hdi.trans hod
          rcases Nat.lt_or_ge k i with h' | h'
          · exact hdist d hod k h' hd
          · obtain ⟨ok, hok, _, hd2, _⟩ := hg k hk
            exact hd2 d (by simpa [dstAt, hok] using hd) i (by omega) hid
    · by_cases hij : i = j
      · subst hij
        have : oj = o := Option.some.inj (hj.symm.trans ho)
        subst this
        exact getD_set_true (hall e he hb)
      · rw [getD_set_ne false hij] at hl
        exact getD_set_true (inv.closed j oj hj hl e he hb)
    · have hji : j ≠ i := fun e => by subst e; simp [hil] at hj
      rw [hset j hji] at hj
      exact Mut.htrans (inv.hist j hj) (hf.1.1.1 j hji (by
        cases hd : Mut.D i j with
        | false => rfl
        | true => have := hdep j (hDB i j o ho hd); rw [hj] at this; cases this))
    · rcases hjB with hjB | hjB
      · obtain ⟨j1, j2, j3⟩ := jB_spec hjB
        by_cases hji : i = Mut.jm
        · have hjs : o.dst ≠ some Mut.js := fun e => by have := j3 i hin (hdi.trans e); omega
          have hsl := hslot Mut.js (j2 o (by rw [← hji]; exact ho))
          have h7 := hf.2 hji
          rw [Array.getD_eq_getD_getElem?] at h7 ⊢
          rw [put_other _ _ _ _ hjs, hsl]
          exact h7
        · rw [hset _ (Ne.symm hji)] at hj
          have hjs : o.dst ≠ some Mut.js := fun e => by
            have hlt := j3 i hin (hdi.trans e)
            obtain ⟨oj, hoj, _, _, hl5⟩ := hg Mut.jm j1
            obtain ⟨e', he', hb', hei⟩ := dep_spec ((hl5 Mut.js (j2 oj hoj) i hin (hdi.trans e)).1 hlt)
            have := inv.closed Mut.jm oj hoj hj e' he' hb'
            rw [hei, hunf] at this
            cases this
          have h7 := inv.jj hj
          rw [Array.getD_eq_getD_getElem?] at h7 ⊢
          rw [put_other _ _ _ _ hjs]
          exact Mut.jkeep (hf.1.1.2 _ (Ne.symm hji) (hnW _ hj)) h7
      · exact hjB _ _
  have hnd : ∀ c, o.op ≠ .defer c := fun c hc => by
    have h1 := Array.all_eq_true_iff_forall_mem.1 hnD o (Array.mem_of_getElem? ho)
    rw [hc] at h1; cases h1
  unfold wpOpIn
  simp only [ho]
  unfold givesG at hlex
  rw [← hwant] at hlex
  split
  · rename_i hw
    rw [if_pos hw] at hlex
    unfold gives at hlex
    rw [← hexec] at hlex
    unfold Oper.wpIn
    refine ⟨fun f _ => trivial, ?_⟩
    rw [semAt_plain hnd]
    generalize (execOp a.eval o).run P w = r at hlex ⊢
    cases r with
    | ok nx w' =>
      cases nx <;> simp only [givesUpon] at hlex <;> simp only [Oper.uponIn]
      case value u => exact hK u _ _ (hnew u w' hlex.1 hlex.2)
      case skip => exact hK undef _ _ (hnew undef w' hlex.1 hlex.2)
      case enter f args =>
        refine ⟨fun h => by simp [Fence.inRound, Fence.wide] at h, CallsIn.inRound l (callsIn_wide.2 (Calls.mono hlex fun e w'' he => ?_))⟩
        obtain ⟨v, rfl, hf, hv⟩ := he
        exact hK v _ _ (hnew v w'' hf hv)
    | halt x w' => simp only [givesUpon] at hlex
  · rename_i hw
    rw [if_neg hw] at hlex
    exact ⟨fun f _ => trivial, hK undef _ _ (hnew undef w hlex.1 hlex.2)⟩
end

theorem wpIn_region_graph {r m : Nat} {P : Program} {id : Nat} {Q : Exit → Act → World → Prop} {a0 : Act} {w : World} {l : List Oper} (n : Nat) (hm : P.follows .mixedOrders = true)
    (hB : (graphB l.toArray n && tailB l.toArray n) = true) (hnD : noDeferB l.toArray = true) (hsz : ((List.range n).all fun k => match dstAt l.toArray k with | some d => decide (d < a0.tmps.size) | none => true) = true) (hjB : jB Mut.jm Mut.js l.toArray n = true ∨ ∀ x w, Mut.J x w) (hDB : ∀ i j o, l.toArray[i]? = some o → Mut.D i j = true → dep o j = true)
    (h : Obl P l.toArray w.drew a0 (wpListIn (Fence.wide.inRound r) m P l.toArray Q (l.drop n)) (l.take n) []) : (Code.region id l.toArray true).wpIn (Fence.wide.inRound r) m P Q a0 w := by
  simp only [Bool.and_eq_true, tailB] at hB
  obtain ⟨hG, hS, hseq⟩ := hB
  obtain ⟨hsel, hns, hg⟩ := graphB_spec hG
  have hnl : n ≤ l.length := by simpa using hns
  have hbd : ∀ k d, dstAt l.toArray k = some d → k < n → d < a0.tmps.size := fun k d hd hk => by
    have := List.all_eq_true.1 hsz k (List.mem_range.2 hk)
    simpa [hd] using this
  obtain ⟨full, hfl, _, hob, hfin⟩ := Obl_split _ _ h
  simp only [List.length_nil, Nat.zero_add] at hfl hob
  have htl : (l.take n).length = n := by simp; omega
  rw [htl] at hfl
  -- the specifications
  obtain ⟨sp, hsp⟩ : ∃ sp : Nat → Sp, ∀ k, sp k = ((full[k]?).map (·.2)).getD (.det undef) := ⟨_, fun _ => rfl⟩
  have hfull : ∀ k, k < n → ∃ o, l[k]? = some o ∧ full[k]? = some (dstAt l.toArray k, sp k) ∧ Mono k (sp k) ∧
      ∀ w', Mut.H k w.drew w' → lexAct o w' (fun a => givesG k P l.toArray o a (sp k) w') 0 (full.take k) a0 := fun k hk => by
    have hlk : l[k]? = some (l[k]'(by omega)) := List.getElem?_eq_getElem (by omega)
    obtain ⟨s, hs, hmono, hlex⟩ := hob k _ (by rw [List.getElem?_take, if_pos hk]; exact hlk)
    have hspk : sp k = s := by rw [hsp, hs]; rfl
    refine ⟨_, hlk, ?_, by rw [hspk]; exact hmono, by rw [hspk]; exact hlex⟩
    rw [hs, hspk]
    simp [dstAt, hlk]
  refine wpIn_region_any hm ?_
  have main : ∀ (f : Nat) (listed : Array Bool) (a : Act) (w' : World) (vs : Nat → Value), GInv l.toArray n sp a0 w.drew vs listed a w' → unl listed n = f →
      wpAnyIn (Fence.wide.inRound r) m P .any l.toArray Q (f + (l.length - n)) listed a w' := by
    intro f
    induction f with
    | zero =>
      intro listed a w' vs inv hf
      rw [Nat.zero_add]
      have hlisted : listed = headDone n l.length := by
        refine Array.ext_getElem? fun t => ?_
        by_cases ht : t < l.length
        · have hts : t < listed.size := by rw [inv.lsize]; simpa using ht
          have h2 : (headDone n l.length)[t]? = some (decide (t < n)) := by simp [headDone, ht]
          rw [h2, Array.getElem?_eq_getElem hts]
          by_cases htn : t < n
          · have := unl_zero n hf t htn
            simp [hts] at this
            simp [htn, this]
          · have := inv.tail t (by omega) (by simpa using ht)
            simp [hts] at this
            simp [htn, this]
        · rw [Array.getElem?_eq_none (by rw [inv.lsize]; simp; omega), Array.getElem?_eq_none (by simp [headDone]; omega)]
      have hlast := lexFin_inst (K := fun a => Mut.J (a.tmps.getD Mut.js undef) w' → wpListIn (Fence.wide.inRound r) m P l.toArray Q (l.drop n) a w') vs full 0 a0 (hfin w' inv.fut) fun j d S hj => by
        rw [Nat.zero_add]
        have hjn : j < n := by rw [← hfl]; exact (List.getElem?_eq_some_iff.1 hj).1
        obtain ⟨_, _, h1, _, _⟩ := hfull j hjn
        rw [hj] at h1
        simp only [Option.some.injEq, Prod.mk.injEq] at h1
        have := inv.held j hjn (unl_zero n hf j hjn)
        rw [← h1.2] at this
        exact this
      have hact : a = putAll vs 0 full a0 := by
        refine act_ext (fun t => ?_) ?_
        · by_cases hex : ∃ k, k < n ∧ dstAt l.toArray k = some t
          · obtain ⟨k, hk, hkd⟩ := hex
            obtain ⟨_, _, h1, _, _⟩ := hfull k hk
            rw [hkd] at h1
            rw [inv.slot k t hk (unl_zero n hf k hk) hkd, putAll_at vs t full 0 a0 k (sp k) (hbd k t hkd hk) h1, Nat.zero_add]
            · have h2 := inv.held k hk (unl_zero n hf k hk)
              cases hs : sp k with
              | det c => rw [hs] at h2; simp only [Sp.holds] at h2; rw [h2]; rfl
              | rel S => rfl
            · intro j d s' hj hd
              have hjn : j < n := by rw [← hfl]; exact (List.getElem?_eq_some_iff.1 hj).1
              obtain ⟨_, _, h3, _, _⟩ := hfull j hjn
              rw [hj] at h3
              simp only [Option.some.injEq, Prod.mk.injEq] at h3
              have hjd : dstAt l.toArray j = some t := h3.1.symm.trans hd
              rcases Nat.lt_trichotomy j k with h' | h' | h'
              · obtain ⟨ok, hok, _, hd2, _⟩ := hg k hk
                exact absurd hjd (hd2 t (by simpa [dstAt, hok] using hkd) j h')
              · exact h'
              · obtain ⟨oj, hoj, _, hd2, _⟩ := hg j hjn
                exact absurd hkd (hd2 t (by simpa [dstAt, hoj] using hjd) k h')
          · rw [inv.free t fun k hk _ hd => hex ⟨k, hk, hd⟩, putAll_other]
            intro d s hmem hd
            obtain ⟨j, hj⟩ := List.getElem?_of_mem hmem
            have hjn : j < n := by rw [← hfl]; exact (List.getElem?_eq_some_iff.1 hj).1
            obtain ⟨_, _, h3, _, _⟩ := hfull j hjn
            rw [hj] at h3
            simp only [Option.some.injEq, Prod.mk.injEq] at h3
            exact hex ⟨j, hjn, h3.1.symm.trans hd⟩
        · rw [inv.defers]
          have : ∀ (acc : List (Option Tmp × Sp)) (k : Nat) (b : Act), (putAll vs k acc b).defers = b.defers := by
            intro acc
            induction acc with
            | nil => intro k b; rfl
            | cons x r ih =>
              intro k b
              obtain ⟨d, s⟩ := x
              cases s <;> simp only [putAll] <;> rw [ih, put_defers']
          rw [this]
      rw [← hact] at hlast
      replace hlast := hlast (hjB.elim (fun h => inv.jj (unl_zero n hf _ (jB_spec h).1)) fun h => h _ _)
      have := wpAnyIn_of_seq (r := r) (m := m) (md := .any) (P := P) (Q' := Q) (l.drop n) n listed a w' (fun j => by simp [List.getElem?_drop])
        (by rw [hlisted, List.length_drop]; simpa using hseq) hlast
      rwa [List.length_drop] at this
    | succ f ih =>
      intro listed a w' vs inv hf
      obtain ⟨i0, hi0, hi1, hi2⟩ := unl_some n (by rw [hf]; omega)
      have hils : ∀ i, i < n → i < listed.size := fun i hi => by rw [inv.lsize]; simp; omega
      have hready : i0 ∈ Region.ready .any l.toArray listed := by
        obtain ⟨o, ho, hedge, _⟩ := hg i0 hi0
        exact mem_ready.2 ⟨getD_in (hils i0 hi0) hi1, o, ho, fun e he hb => hi2 _ (hedge e he hb)⟩
      rw [show f + 1 + (l.length - n) = (f + (l.length - n)) + 1 by omega]
      refine ⟨fun h0 => (by rw [h0] at hready; cases hready), fun i hi => ?_⟩
      have hin : i < n := by
        rcases Nat.lt_or_ge i n with h' | h'
        · exact h'
        · exfalso
          have hisz : i < l.toArray.size := by
            obtain ⟨_, o, ho, _⟩ := mem_ready.1 hi
            exact (Array.getElem?_eq_some_iff.1 ho).1
          simp only [sinkB, Bool.or_eq_true, decide_eq_true_eq, Bool.and_eq_true] at hS
          rcases hS with hS | ⟨hs, hc⟩
          · omega
          · exact tail_waits hs hc (by omega) ⟨inv.lsize, inv.closed, inv.tail⟩ _ i0 rfl hi0 (getD_in (hils i0 hi0) hi1) i h' hi
      refine inv.stepIn (l := r) (m := m) (full := full) (Q := Q) hG hnD hbd hjB hDB (fun k hk => (by obtain ⟨_, _, h1, _, _⟩ := hfull k hk; exact h1)) hfl (fun k hk => (by obtain ⟨_, _, _, h1, _⟩ := hfull k hk; exact h1))
        (fun o ho => (by
          obtain ⟨o', ho', _, _, h1⟩ := hfull i hin
          have : o = o' := Option.some.inj ((by simpa using ho.symm : some o = l[i]?).trans ho')
          subst this
          exact h1)) hi hin fun v a' w'' inv' => ih _ a' w'' _ inv' ?_
      have hun := getD_both (mem_ready.1 hi).1
      have := unl_set hun (hils i hin) n hin
      omega
  have := main n (Array.replicate l.toArray.size false) a0 w.drew (fun _ => undef)
    ⟨rfl, rfl, G.refl _, fun _ _ => rfl, fun k _ hl => (by rw [getD_replicate_false] at hl; cases hl), fun k _ _ hl => (by rw [getD_replicate_false] at hl; cases hl), by simp,
      fun j oj _ hl => (by rw [getD_replicate_false] at hl; cases hl), fun t _ ht => getD_in (by simpa using ht) (getD_replicate_false _ _), fun i _ => Mut.hfut (Fut.refl _), fun hl => (by rw [getD_replicate_false] at hl; cases hl)⟩ (unl_none _ _)
  rwa [show n + (l.length - n) = l.toArray.size by simp; omega] at this

theorem wpIn_graph {r m : Nat} {P : Program} {id : Nat} {Q : Exit → Act → World → Prop} {a0 : Act} {w : World} {l : List Oper} (n : Nat) (shape : List Sh) (hm : P.follows .mixedOrders = true)
    (hB : (graphB l.toArray n && tailB l.toArray n) = true) (hnD : noDeferB l.toArray = true) (hsz : ((List.range n).all fun k => match dstAt l.toArray k with | some d => decide (d < a0.tmps.size) | none => true) = true) (hjB : jB Mut.jm Mut.js l.toArray n = true ∨ ∀ x w, Mut.J x w) (hDB : ∀ i j o, l.toArray[i]? = some o → Mut.D i j = true → dep o j = true)
    (h : Exs (fun sps => Run P l.toArray w.drew (wpListIn (Fence.wide.inRound r) m P l.toArray Q (l.drop n)) 0 (l.take n) sps a0 []) shape) : (Code.region id l.toArray true).wpIn (Fence.wide.inRound r) m P Q a0 w := by
  obtain ⟨sps, hs⟩ := Exs_some shape h
  exact wpIn_region_graph n hm hB hnD hsz hjB hDB (Obl_of_run _ sps [] fun _ => hs)
end Go.Proofs.Ytcekphjcmippoaa.On
/- amid, in general: rows are told while one is added and one removed. -/
namespace Go.Proofs.Ytcekphjcmippoaa
open Go.RowKit Go.WideMaps Go.Shelf
set_option linter.unusedSimpArgs false
set_option linter.unusedVariables false
attribute [local go_sem] Oper.semAt_some

theorem rem_le (S : Option RSt) (x : Rw) : (rowsS (remS S x)).length ≤ (rowsS S).length := by
  cases S with
  | none => exact Nat.le_refl _
  | some s => exact List.length_erase_le (a := x) (l := s.xs)
theorem add_gone0 (S : Option RSt) (x : Rw) : goneS (addS S x) = goneS S := by cases S <;> rfl
theorem both_turn {B : Nat} {w w' : World} {bb off : Nat} {S S' : Option RSt} {O FT FD F1 F2 : Nat → Prop} {p q : Option Addr} {kv : Value} {f t : Int} (h : BothAt B w bb off S O p q kv f t FT FD)
    (hT : TAt B w' p S' F1) (hD : DAt B w' q S' F2) (hdis : ∀ k, F1 k → ¬ F2 k) (hb1 : ∀ k, F1 k → FT k ∨ w.heap.size ≤ k) (hb2 : ∀ k, F2 k → FD k ∨ w.heap.size ≤ k) (hO : Only (fun k => FT k ∨ FD k) w w') :
    BothAt B w' bb off S' (more O w w') p q kv f t F1 F2 ∧ Only O w w' := by
  have hs := hO.size
  have hnb : ¬ (FT bb ∨ FD bb) := fun k => h.nb (k.elim (h.fO _) (h.dO _))
  obtain ⟨arr, ty, b0, br⟩ := h.blk
  have hbb : bb < w.heap.size := (Array.getElem?_eq_some_iff.1 b0).1
  refine ⟨⟨⟨arr, ty, hO.keeps b0 hnb, br⟩, hT, hD, fun k hk => ?_, fun k hk => ?_, hdis, fun hk => ?_, more_lt h.lt hs, Nat.le_trans h.base hs, ?_⟩, hO.mono fun k _ hk => hk.elim (h.fO _) (h.dO _)⟩
  · exact (hb1 k hk).imp (h.fO k) fun h => ⟨h, hT.lt k hk⟩
  · exact (hb2 k hk).imp (h.dO k) fun h => ⟨h, hD.lt k hk⟩
  · exact hk.elim h.nb fun k => by omega
  · rcases h.kept with h1 | ⟨lb, h1, b1, b2, b3, h2, h3, h4, h5, h6⟩
    · exact .inl h1
    · have key : ∀ j, j = b1 ∨ j = b2 ∨ j = b3 → more O w w' j ∧ ¬ F1 j ∧ ¬ F2 j ∧ ¬ (FT j ∨ FD j) := fun j hj => by
        obtain ⟨a1, a2, a3⟩ := h6 j hj
        have hlt := h.lt j a1
        refine ⟨.inl a1, fun hk => (hb1 j hk).elim a2 fun h => by omega, fun hk => (hb2 j hk).elim a3 fun h => by omega, fun hk => hk.elim a2 a3⟩
      exact .inr ⟨lb, h1, b1, b2, b3, h2, hO.cell h3 (key b1 (.inl rfl)).2.2.2, hO.cell h4 (key b2 (.inr (.inl rfl))).2.2.2, hO.cell h5 (key b3 (.inr (.inr rfl))).2.2.2, fun j hj => ⟨(key j hj).1, (key j hj).2.1, (key j hj).2.2.1⟩⟩
/-- What holds between two rounds. -/
def AmidAt (B : Nat) (w : World) (bb off : Nat) (S : Option RSt) (O : Nat → Prop) (p q : Option Addr) (kv : Value) (f t : Int) (s k : Nat) (W : World) : Prop :=
  ∃ S' O' FT FD, BothAt B W bb off S' O' p q kv f t FT FD ∧ (rowsS S').length ≤ (rowsS S).length + 1 ∧ goneS S' ≤ goneS S + 1 ∧ (S = none → S' = none) ∧ (∀ j, O' j → O j ∨ s ≤ j) ∧ (k = 0 → S' = S)
section
variable {B : Nat} {w : World} {bb off : Nat} {S : Option RSt} {O FT FD : Nat → Prop} {p q : Option Addr} {kv : Value} {f t : Int}
set_option maxHeartbeats 3200000 in
set_option maxRecDepth 100000 in
theorem amid_any (h : BothAt B w bb off S O p q kv f t FT FD) (hl : (rowsS S).length < 1353244080301) (hgn : goneS S < 4611686018427387904) (o : OpL) (ho : o.ok) :
    Calls Try.prog 64 #[.pointer (some ⟨bb, off, none⟩), o.val] w (Did B w bb off S O p q) := by
  have H := Lib.hid h
  obtain ⟨c0, c1, _⟩ := h.cell
  have hro := ho.row
  have hl' : (rowsS S).length ≤ 1353244080301 := by omega
  have HOk := Lib.hid h.T.oks
  have hbbl : bb < w.heap.size := by
    obtain ⟨arr, ty, h0, _⟩ := h.blk
    exact (Array.getElem?_eq_some_iff.1 h0).1
  have HOl := Lib.hid h.lt
  have hnbO := h.nb
  clear h
  obtain ⟨N, hN⟩ : ∃ N, hiS (rowsS S) o.m - loS o.n = N := ⟨_, rfl⟩
  have HN := Lib.hid hN
  have HNb := Lib.hid (fun k (hk : k < N) => nbL_at (rowsS S) o.n o.m (k := k) (by omega))
  have hlen := nbL_len (rowsS S) o.n o.m
  rw [hN] at hlen
  have hNx : N ≤ (rowsS S).length := by rw [← hN]; unfold hiS; omega
  clear hN
  unfold OpL.val
  refine (callsIn_wide (n := 3)).1 ?_
  refine callsIn_of_wp_marks Try.func64 rfl trivial ?_ rfl
  refine wpIn_wide.2 ?_
  simp only [Try.ntmps64, List.size_toArray, List.length_cons, List.length_nil, Nat.reduceAdd, Nat.reduceSub, Array.replicate_succ, Array.replicate_zero, List.push_toArray, List.append_toArray, List.nil_append, List.cons_append]
  go_wp2_with fail
  have f1 := Fut.alloc w (.cells #[Value.pointer (some ⟨bb, off, none⟩)] 92)
  have k1 := cell_at (heap_alloc_new w (.cells #[Value.pointer (some ⟨bb, off, none⟩)] 92)) 0 _ rfl
  obtain ⟨u1, hW1⟩ : ∃ W, w.alloc (.cells #[Value.pointer (some ⟨bb, off, none⟩)] 92) = W := ⟨_, rfl⟩
  have hs1 : u1.heap.size = w.heap.size + 1 := by rw [← hW1]; simp
  rw [hW1] at f1 k1 ⊢
  have f2 := Fut.alloc u1 (.cells o.cells.toArray 67)
  have hrow := op_row (w := u1) (t := 67) hro
  rw [hs1] at hrow
  have cn : (u1.alloc (.cells o.cells.toArray 67)).cell? ⟨w.heap.size + 1, 2, none⟩ = some (.int .i64 o.n) := by rw [← hs1]; exact cell_at (heap_alloc_new u1 _) 2 _ rfl
  have cmm : (u1.alloc (.cells o.cells.toArray 67)).cell? ⟨w.heap.size + 1, 3, none⟩ = some (.int .i64 o.m) := by rw [← hs1]; exact cell_at (heap_alloc_new u1 _) 3 _ rfl
  obtain ⟨u2, hW2⟩ : ∃ W, u1.alloc (.cells o.cells.toArray 67) = W := ⟨_, rfl⟩
  have hs2 : u2.heap.size = w.heap.size + 1 + 1 := by rw [← hW2, World.size_alloc, hs1]
  rw [hW2] at f2 cn cmm hrow ⊢
  have f3 := Fut.alloc u2 (.cells #[Value.bool false] 4)
  have b3 := heap_alloc_new u2 (.cells #[Value.bool false] 4)
  rw [hs2] at b3
  obtain ⟨u3, hW3⟩ : ∃ W, u2.alloc (.cells #[Value.bool false] 4) = W := ⟨_, rfl⟩
  have hs3 : u3.heap.size = w.heap.size + 1 + 1 + 1 := by rw [← hW3, World.size_alloc, hs2]
  rw [hW3] at f3 b3 ⊢
  have F3 := (f1.trans f2).trans f3
  replace k1 := f3.cell (f2.cell k1)
  replace cn := f3.cell cn
  replace cmm := f3.cell cmm
  replace hrow := hrow.fut f3
  replace c0 := F3.cell c0
  replace c1 := F3.cell c1
  have HW := Lib.hid (H.out.fut F3)
  have hs03 : w.heap.size + 3 ≤ u3.heap.size := by omega
  clear hW1 hW2 hW3 f1 f2 f3 hs1 hs2 hs3
  refine wp_graph 10 [.d, .d, .d, .d, .d, .d, .d, .d, .r (fun v w' => OwnL 25 u3.heap.size 106 RNb w' v (nbL (rowsS S) o.n o.m)), .r (fun v w => ∃ b, v = .pointer (some ⟨b, 0, none⟩) ∧ u3.heap.size ≤ b ∧ w.heap[b]? = some (.cells #[.slice none 0 0] 95 (0, 0)))] (by kernel_rfl) (by kernel_rfl) (by kernel_rfl) ?_
  simp only [List.take_succ_cons, List.take_zero, List.drop_succ_cons, List.drop_zero, Exs]
  iterate 8 apply Exists.intro
  apply Run.valG (wanted_none rfl _)
  · intro w1 h1 hk
    have hg := (Fut.drew _).trans h1; have q0 := h1.cell k1; have q1 := h1.cell c1; have q2 := h1.cell cn; have q3 := h1.cell cmm
    have hcw := fun b o => Below.cell (p := ⟨b, o, none⟩) h1
    go_simp; rfl
  simp only [Act.put, List.setIfInBounds_toArray, List.set_cons_succ, List.set_cons_zero, List.nil_append, List.cons_append]
  apply Run.valG (wanted_none rfl _)
  · intro w1 h1 hk
    have hg := (Fut.drew _).trans h1; have q0 := h1.cell k1; have q1 := h1.cell c1; have q2 := h1.cell cn; have q3 := h1.cell cmm
    have hcw := fun b o => Below.cell (p := ⟨b, o, none⟩) h1
    go_simp; rfl
  simp only [Act.put, List.setIfInBounds_toArray, List.set_cons_succ, List.set_cons_zero, List.nil_append, List.cons_append]
  apply Run.valG (wanted_none rfl _)
  · intro w1 h1 hk
    have hg := (Fut.drew _).trans h1; have q0 := h1.cell k1; have q1 := h1.cell c1; have q2 := h1.cell cn; have q3 := h1.cell cmm
    have hcw := fun b o => Below.cell (p := ⟨b, o, none⟩) h1
    go_simp; rfl
  simp only [Act.put, List.setIfInBounds_toArray, List.set_cons_succ, List.set_cons_zero, List.nil_append, List.cons_append]
  apply Run.valG (wanted_none rfl _)
  · intro w1 h1 hk
    have hg := (Fut.drew _).trans h1; have q0 := h1.cell k1; have q1 := h1.cell c1; have q2 := h1.cell cn; have q3 := h1.cell cmm
    have hcw := fun b o => Below.cell (p := ⟨b, o, none⟩) h1
    go_simp; rfl
  simp only [Act.put, List.setIfInBounds_toArray, List.set_cons_succ, List.set_cons_zero, List.nil_append, List.cons_append]
  apply Run.valG (wanted_none rfl _)
  · intro w1 h1 hk
    have hg := (Fut.drew _).trans h1; have q0 := h1.cell k1; have q1 := h1.cell c1; have q2 := h1.cell cn; have q3 := h1.cell cmm
    have hcw := fun b o => Below.cell (p := ⟨b, o, none⟩) h1
    go_simp; rfl
  simp only [Act.put, List.setIfInBounds_toArray, List.set_cons_succ, List.set_cons_zero, List.nil_append, List.cons_append]
  apply Run.valG (wanted_none rfl _)
  · intro w1 h1 hk
    have hg := (Fut.drew _).trans h1; have q0 := h1.cell k1; have q1 := h1.cell c1; have q2 := h1.cell cn; have q3 := h1.cell cmm
    have hcw := fun b o => Below.cell (p := ⟨b, o, none⟩) h1
    go_simp; rfl
  simp only [Act.put, List.setIfInBounds_toArray, List.set_cons_succ, List.set_cons_zero, List.nil_append, List.cons_append]
  apply Run.valG (wanted_none rfl _)
  · intro w1 h1 hk
    have hg := (Fut.drew _).trans h1; have q0 := h1.cell k1; have q1 := h1.cell c1; have q2 := h1.cell cn; have q3 := h1.cell cmm
    have hcw := fun b o => Below.cell (p := ⟨b, o, none⟩) h1
    go_simp; rfl
  simp only [Act.put, List.setIfInBounds_toArray, List.set_cons_succ, List.set_cons_zero, List.nil_append, List.cons_append]
  apply Run.valG (wanted_none rfl _)
  · intro w1 h1 hk
    have hg := (Fut.drew _).trans h1; have q0 := h1.cell k1; have q1 := h1.cell c1; have q2 := h1.cell cn; have q3 := h1.cell cmm
    have hcw := fun b o => Below.cell (p := ⟨b, o, none⟩) h1
    go_simp; rfl
  simp only [Act.put, List.setIfInBounds_toArray, List.set_cons_succ, List.set_cons_zero, List.nil_append, List.cons_append]
  apply Run.callR (wanted_none rfl _) (by intro v w w' hf hs; exact hs.fut RNb.stays hf) (fun _ _ => by go_simp; exact ⟨rfl, rfl⟩)
  · intro w1 h1 hk
    have hg := (Fut.drew _).trans h1; have q0 := h1.cell k1; have q1 := h1.cell c1; have q2 := h1.cell cn; have q3 := h1.cell cmm
    refine (D_range (HW.out.fut hg).D hl' _ _).mono ?_; rintro e w' ⟨u, rfl, hO, hf⟩; exact ⟨_, rfl, hf, hO.base hg.size⟩
  intro v8
  simp only [Act.put, List.setIfInBounds_toArray, List.set_cons_succ, List.set_cons_zero, List.nil_append, List.cons_append]
  apply Run.valR (wanted_none rfl _) (by intro v w w' hf hs; exact (by obtain ⟨b, rfl, hb, h⟩ := hs; exact ⟨b, rfl, hb, hf.block h⟩))
  · intro w1 h1 hk
    have hg := (Fut.drew _).trans h1; have q0 := h1.cell k1; have q1 := h1.cell c1; have q2 := h1.cell cn; have q3 := h1.cell cmm
    exact ⟨_, _, exec_alloc_N rfl, Fut.alloc _ _, _, rfl, hg.size, heap_alloc_new _ _⟩
  intro v9
  simp only [Act.put, List.setIfInBounds_toArray, List.set_cons_succ, List.set_cons_zero, List.nil_append, List.cons_append]
  apply Run.done
  intro u4 h4 hk
  obtain ⟨f8, f9, _⟩ := hk
  obtain ⟨b5, rfl, hb5, hZ5⟩ := f9
  obtain ⟨A8, cap8, rfl, hc8, _⟩ := f8.rep.form
  rw [hlen] at f8 hc8 ⊢
  have HU4 := Lib.hid f8
  have HU5 := Lib.hid (show ∀ j, (Value.slice A8 N cap8).ownBlock = some j → u3.heap.size ≤ j ∧ j < u4.heap.size ∧ j ≠ b5 from fun j hj => ⟨(f8.block j hj).1, (f8.block j hj).2, fun e => by
    obtain ⟨arr, ha⟩ := f8.typed j hj
    rw [e, hZ5] at ha
    injection ha with ha
    injection ha with _ ha _
    revert ha
    decide⟩)
  have F4 := F3.trans ((Fut.drew _).trans h4)
  have g4 := (Fut.drew _).trans h4
  have z5 := free_at hZ5 0
  have x5 := cell_at hZ5 0 _ rfl
  clear f8
  go_wp2_with fail
  have O5 : Only (fun k => k = b5) u4 (u4.setCell ⟨b5, 0, none⟩ (.slice A8 N cap8)) := Only.set _ _ rfl
  have B5 := set_blk hZ5 (i := 0) (v := .slice A8 N cap8)
  obtain ⟨u5, hW5⟩ : ∃ W, u4.setCell ⟨b5, 0, none⟩ (.slice A8 N cap8) = W := ⟨_, rfl⟩
  rw [hW5] at O5 B5 ⊢
  clear hW5 z5 x5 hZ5
  have G5 : Fut u3 u5 := ((Only.fut g4).trans O5).toFut fun k hk => hk ▸ hb5
  have F5 := F3.trans G5
  have HW5 := Lib.hid (HW.out.fut G5)
  have B3 := G5.block b3
  replace k1 := G5.cell k1
  replace c0 := G5.cell c0
  replace cn := G5.cell cn
  replace cmm := G5.cell cmm
  replace hrow := hrow.fut G5
  have hb5l : b5 < u5.heap.size := (Array.getElem?_eq_some_iff.1 B5).1
  have O45 := Lib.hid O5
  have hs45 := O5.size
  have hs35 := G5.size
  clear O5 h4 g4 G5 F4 c1 HW b3
  refine wp_graph 9 [.d, .d, .d, .d, .d, .d, .d, .d, .r (fun v w => ∃ lb, v = .func (.func 35) #[] lb ∧ SeqAt w lb (.pointer p) o.n o.m)] (by kernel_rfl) (by kernel_rfl) (by kernel_rfl) ?_
  simp only [List.take_succ_cons, List.take_zero, List.drop_succ_cons, List.drop_zero, Exs]
  iterate 8 apply Exists.intro
  apply Run.valG (wanted_none rfl _)
  · intro w1 h1 hk
    have hg := (Fut.drew _).trans h1; have q0 := h1.cell k1; have q1 := h1.cell c0; have q2 := h1.cell cn; have q3 := h1.cell cmm
    have hcw := fun b o => Below.cell (p := ⟨b, o, none⟩) h1
    go_simp; rfl
  simp only [Act.put, List.setIfInBounds_toArray, List.set_cons_succ, List.set_cons_zero, List.nil_append, List.cons_append]
  apply Run.valG (wanted_none rfl _)
  · intro w1 h1 hk
    have hg := (Fut.drew _).trans h1; have q0 := h1.cell k1; have q1 := h1.cell c0; have q2 := h1.cell cn; have q3 := h1.cell cmm
    have hcw := fun b o => Below.cell (p := ⟨b, o, none⟩) h1
    go_simp; rfl
  simp only [Act.put, List.setIfInBounds_toArray, List.set_cons_succ, List.set_cons_zero, List.nil_append, List.cons_append]
  apply Run.valG (wanted_none rfl _)
  · intro w1 h1 hk
    have hg := (Fut.drew _).trans h1; have q0 := h1.cell k1; have q1 := h1.cell c0; have q2 := h1.cell cn; have q3 := h1.cell cmm
    have hcw := fun b o => Below.cell (p := ⟨b, o, none⟩) h1
    go_simp; rfl
  simp only [Act.put, List.setIfInBounds_toArray, List.set_cons_succ, List.set_cons_zero, List.nil_append, List.cons_append]
  apply Run.valG (wanted_none rfl _)
  · intro w1 h1 hk
    have hg := (Fut.drew _).trans h1; have q0 := h1.cell k1; have q1 := h1.cell c0; have q2 := h1.cell cn; have q3 := h1.cell cmm
    have hcw := fun b o => Below.cell (p := ⟨b, o, none⟩) h1
    go_simp; rfl
  simp only [Act.put, List.setIfInBounds_toArray, List.set_cons_succ, List.set_cons_zero, List.nil_append, List.cons_append]
  apply Run.valG (wanted_none rfl _)
  · intro w1 h1 hk
    have hg := (Fut.drew _).trans h1; have q0 := h1.cell k1; have q1 := h1.cell c0; have q2 := h1.cell cn; have q3 := h1.cell cmm
    have hcw := fun b o => Below.cell (p := ⟨b, o, none⟩) h1
    go_simp; rfl
  simp only [Act.put, List.setIfInBounds_toArray, List.set_cons_succ, List.set_cons_zero, List.nil_append, List.cons_append]
  apply Run.valG (wanted_none rfl _)
  · intro w1 h1 hk
    have hg := (Fut.drew _).trans h1; have q0 := h1.cell k1; have q1 := h1.cell c0; have q2 := h1.cell cn; have q3 := h1.cell cmm
    have hcw := fun b o => Below.cell (p := ⟨b, o, none⟩) h1
    go_simp; rfl
  simp only [Act.put, List.setIfInBounds_toArray, List.set_cons_succ, List.set_cons_zero, List.nil_append, List.cons_append]
  apply Run.valG (wanted_none rfl _)
  · intro w1 h1 hk
    have hg := (Fut.drew _).trans h1; have q0 := h1.cell k1; have q1 := h1.cell c0; have q2 := h1.cell cn; have q3 := h1.cell cmm
    have hcw := fun b o => Below.cell (p := ⟨b, o, none⟩) h1
    go_simp; rfl
  simp only [Act.put, List.setIfInBounds_toArray, List.set_cons_succ, List.set_cons_zero, List.nil_append, List.cons_append]
  apply Run.valG (wanted_none rfl _)
  · intro w1 h1 hk
    have hg := (Fut.drew _).trans h1; have q0 := h1.cell k1; have q1 := h1.cell c0; have q2 := h1.cell cn; have q3 := h1.cell cmm
    have hcw := fun b o => Below.cell (p := ⟨b, o, none⟩) h1
    go_simp; rfl
  simp only [Act.put, List.setIfInBounds_toArray, List.set_cons_succ, List.set_cons_zero, List.nil_append, List.cons_append]
  apply Run.callR (wanted_none rfl _) (by intro v w w' hf hs; exact (by obtain ⟨lb, rfl, h⟩ := hs; exact ⟨lb, rfl, h.fut hf⟩)) (fun _ _ => by go_simp; exact ⟨rfl, rfl⟩)
  · intro w1 h1 hk
    have hg := (Fut.drew _).trans h1; have q0 := h1.cell k1; have q1 := h1.cell c0; have q2 := h1.cell cn; have q3 := h1.cell cmm
    refine (range_any p _ _ _).mono ?_; rintro e w' ⟨lb, rfl, hq, hf⟩; exact ⟨_, rfl, hf, lb, rfl, hq⟩
  intro v8
  simp only [Act.put, List.setIfInBounds_toArray, List.set_cons_succ, List.set_cons_zero, List.nil_append, List.cons_append]
  apply Run.done
  intro u6 h6 hk
  obtain ⟨f8, _⟩ := hk
  obtain ⟨lb, rfl, hsq⟩ := f8
  have g6 := (Fut.drew _).trans h6
  have F6 := F5.trans g6
  have HW6 := Lib.hid (HW5.out.fut g6)
  have B36 := g6.block B3
  have B56 := g6.block B5
  have HS := Lib.hid hsq
  have hef := fun lb => run_eql_fn (.func 35) #[] lb
  have hs6 := g6.size
  replace k1 := g6.cell k1
  replace hrow := hrow.fut g6
  have G6 := Lib.hid g6
  clear hsq h6 g6 c0 cn cmm
  go_wp2_with fail
  have g7 := Fut.alloc u6 (.cells #[Value.int .i64 0] 3)
  have B7 := heap_alloc_new u6 (.cells #[Value.int .i64 0] 3)
  have hs7 : (u6.alloc (.cells #[Value.int .i64 0] 3)).heap.size = u6.heap.size + 1 := by simp
  obtain ⟨wl, hW7⟩ : ∃ W, u6.alloc (.cells #[Value.int .i64 0] 3) = W := ⟨_, rfl⟩
  rw [hW7] at g7 B7 hs7 ⊢
  clear hW7 hef
  have hs7' : u6.heap.size < wl.heap.size := by omega
  have HS7 := Lib.hid hs7
  clear hs7
  have FL := Lib.hid (F6.trans g7)
  have B37 := g7.block B36
  have B57 := g7.block B56
  have HWL := Lib.hid (HW6.out.fut g7)
  replace k1 := g7.cell k1
  replace hrow := hrow.fut g7
  have G7 := Lib.hid g7
  have hsw := F3.size
  refine wp_range (N := N) (args := spanArgs (rowsS S) o.n) rfl (enters_of Try.func35 (by kernel_rfl) rfl) (fun W hf => HN.out ▸ T_iter (HW6.out.fut (G7.out.trans hf)).T hl' _ _ lb (HS.out.fut (G7.out.trans hf))) (fun k hk => rfl)
    (fun s k W => W.heap[u6.heap.size]? = some (.cells #[.int .i64 (k : Int)] 3 (0, 0)) ∧ Only (fun j => O j ∨ j = u6.heap.size) wl W ∧ AmidAt B w bb off S O p q kv f t s k W)
    (fun _ _ _ => False) ?hIf ?hI ?hIx ?h0 ?hbody ?hdone ?hstop
  case hIf =>
    rintro s k W W' hf ⟨h3, h4, S', O', FT', FD', hB, hr⟩
    exact ⟨hf.block h3, h4.trans (Only.fut hf), S', O', FT', FD', hB.fut hf, hr⟩
  case hI =>
    rintro s k W l o hl1 hl2 hs ⟨h3, h4, S', O', FT', FD', hB, hr1, hr2, hr3, hr4, hr5⟩
    have OP : Only (fun j => j = l) W (W.putObj l o) := Only.put _ _ rfl
    exact ⟨OP.keeps h3 (by show ¬ u6.heap.size = l; omega), h4.then OP fun j hj hlt => by omega, S', O', FT', FD', hB.only OP (fun j hj e => (hr4 j hj).elim (fun h => by have := HOl.out j h; omega) fun h => by omega) (by omega), hr1, hr2, hr3, hr4, hr5⟩
  case hIx => exact fun _ _ _ _ _ _ _ _ h => h
  case h0 =>
    intro W hf hs
    exact ⟨hf.block B7, Only.fut hf, S, O, FT, FD, HWL.out.fut hf, by omega, by omega, id, fun j hj => .inl hj, fun _ => rfl⟩
  case hbody =>
    rintro l s k W hl1 hl2 hs hsW hk ⟨h3, h4, S1, O1, FT1, FD1, hB, hr1, hr2, hr3, hr4, hr5⟩ hrec
    have hnb := HNb.out k hk
    have hgd : Rw.ok ((rowsS S).getD (loS o.n + k) zeroRow) := by
      by_cases h : loS o.n + k < (rowsS S).length
      · rw [show (rowsS S).getD (loS o.n + k) zeroRow = (rowsS S)[loS o.n + k] by simp [List.getD, h]]
        exact HOk.out _ (List.getElem_mem h)
      · rw [show (rowsS S).getD (loS o.n + k) zeroRow = zeroRow by simp [List.getD, h]]
        exact zeroRow_ok
    unfold spanArgs
    obtain ⟨gn, on, rfl, cn, rn⟩ := numb_at HU4.out.rep (k := k) (by rw [hlen]; exact hk)
    have hgb := HU5.out gn rfl
    have hgn2 := (List.getElem?_eq_some_iff.1 hnb).2
    rw [hgn2] at cn rn
    generalize (rowsS S).getD (loS o.n + k) zeroRow = y at hgd rn
    have hyo := hgd
    rw [show ((loS o.n + k : Nat) : Int) = (loS o.n : Int) + (k : Int) by simp] at cn
    generalize (loS o.n : Int) + (k : Int) = X at cn
    clear hgn2 hnb
    obtain ⟨rr, hrr⟩ := hrec
    have e1 : (0 : Int) ≤ k ∧ (k : Int) < N := by omega
    have e2 : ¬ (N : Int) ≤ k := by omega
    have e3 : IntKind.i64.wrap ((k : Int) + 1) = ((k + 1 : Nat) : Int) := by rw [IntKind.wrap_i64]; omega
    have hF3 : ∀ j, FT1 j ∨ FD1 j → j < W.heap.size := fun j hj => hj.elim (hB.T.lt j) (hB.D.lt j)
    have hF1 : ∀ j, FT1 j ∨ FD1 j → j < w.heap.size ∨ s ≤ j := fun j hj => (hr4 j (hj.elim (hB.fO j) (hB.dO j))).imp (HOl.out j) id
    have hwl : w.heap.size + 3 < wl.heap.size := by omega
    gi_wp2_with (first | (refine wpListIn_store_new (round_fn l) rowTy (wanted_none rfl _) _ _ rfl rfl rfl rfl hyo ?_))
    refine ⟨Mid.of_fut (Fut.alloc _ _) hsW, fun ob => ?_⟩
    have OP : Only (fun j => j = l) W ((W.alloc (.cells (Rw.cells y).toArray 32)).putObj l ob) := (Only.fut (Fut.alloc _ _)).trans (Only.put _ _ rfl)
    have hry : RowAt ((W.alloc (.cells (Rw.cells y).toArray 32)).putObj l ob) W.heap.size 0 y := (RowAt.new W 32 hyo).only (Only.put (S := fun j => j = l) l ob rfl) (by omega)
    have hsP : W.heap.size < ((W.alloc (.cells (Rw.cells y).toArray 32)).putObj l ob).heap.size := by rw [World.putObj_size]; simp
    obtain ⟨Wp, hWp⟩ : ∃ x, (W.alloc (.cells (Rw.cells y).toArray 32)).putObj l ob = x := ⟨_, rfl⟩
    rw [hWp] at OP hry hsP ⊢
    clear hWp hrr
    have hnO : ∀ j, w.heap.size ≤ j → j ≠ u6.heap.size → ¬ (O j ∨ j = u6.heap.size) := fun j hj hne h => h.elim (fun h => by have := HOl.out j h; omega) hne
    replace h3 := OP.keeps h3 (by show ¬ u6.heap.size = l; omega)
    replace h4 := h4.then OP fun j hj hlt => by omega
    replace hB := hB.only OP (fun j hj e => (hr4 j hj).elim (fun h => by have := HOl.out j h; omega) fun h => by omega) (by omega)
    have ck := cell_at h3 0 _ rfl
    have d5 := h4.cell (cell_at B57 0 (.slice (some ⟨gn, on, none⟩) N cap8) rfl) (hnO b5 (by omega) (by omega))
    have dk := h4.cell k1 (hnO w.heap.size (Nat.le_refl _) (by omega))
    have dn := h4.cell (G7.out.cell (G6.out.cell (O45.out.cell cn hgb.2.2))) (hnO gn (by omega) (by omega))
    replace rn := (((rn.only O45.out hgb.2.2).fut G6.out).fut G7.out).only h4 (hnO gn (by omega) (by omega))
    have rowW := hrow.only h4 (hnO (w.heap.size + 1) (by omega) (by omega))
    gi_wp2_with fail
    refine wpIn_graph 22 [.d, .d, .d, .d, .d, .d, .d, .d, .d, .d, .d, .d, .d, .d, .d, .d, .d, .d, .d, .d, .d, .d] (by kernel_rfl) (by kernel_rfl) (by kernel_rfl) (by kernel_rfl) ?_
    simp only [List.take_succ_cons, List.take_zero, List.drop_succ_cons, List.drop_zero, Exs]
    iterate 22 apply Exists.intro
    apply Run.valG (wanted_none rfl _)
    · intro w1 h1 hk
      have q1 := h1.cell ck; have q2 := h1.cell d5; have q3 := h1.cell dn; have hg := (Fut.drew _).trans h1
      have hcw := fun b o => Below.cell (p := ⟨b, o, none⟩) h1
      go_simp; rfl
    simp only [Act.put, List.setIfInBounds_toArray, List.set_cons_succ, List.set_cons_zero, List.nil_append, List.cons_append]
    apply Run.valG (wanted_none rfl _)
    · intro w1 h1 hk
      have q1 := h1.cell ck; have q2 := h1.cell d5; have q3 := h1.cell dn; have hg := (Fut.drew _).trans h1
      have hcw := fun b o => Below.cell (p := ⟨b, o, none⟩) h1
      go_simp; rfl
    simp only [Act.put, List.setIfInBounds_toArray, List.set_cons_succ, List.set_cons_zero, List.nil_append, List.cons_append]
    apply Run.valG (wanted_none rfl _)
    · intro w1 h1 hk
      have q1 := h1.cell ck; have q2 := h1.cell d5; have q3 := h1.cell dn; have hg := (Fut.drew _).trans h1
      have hcw := fun b o => Below.cell (p := ⟨b, o, none⟩) h1
      go_simp; rfl
    simp only [Act.put, List.setIfInBounds_toArray, List.set_cons_succ, List.set_cons_zero, List.nil_append, List.cons_append]
    apply Run.valG (wanted_none rfl _)
    · intro w1 h1 hk
      have q1 := h1.cell ck; have q2 := h1.cell d5; have q3 := h1.cell dn; have hg := (Fut.drew _).trans h1
      have hcw := fun b o => Below.cell (p := ⟨b, o, none⟩) h1
      go_simp; rfl
    simp only [Act.put, List.setIfInBounds_toArray, List.set_cons_succ, List.set_cons_zero, List.nil_append, List.cons_append]
    apply Run.valG (wanted_none rfl _)
    · intro w1 h1 hk
      have q1 := h1.cell ck; have q2 := h1.cell d5; have q3 := h1.cell dn; have hg := (Fut.drew _).trans h1
      have hcw := fun b o => Below.cell (p := ⟨b, o, none⟩) h1
      go_simp; rfl
    simp only [Act.put, List.setIfInBounds_toArray, List.set_cons_succ, List.set_cons_zero, List.nil_append, List.cons_append]
    apply Run.valG (by go_simp)
    · intro w1 h1 hk
      have q1 := h1.cell ck; have q2 := h1.cell d5; have q3 := h1.cell dn; have hg := (Fut.drew _).trans h1
      have hcw := fun b o => Below.cell (p := ⟨b, o, none⟩) h1
      go_simp; rfl
    simp only [Act.put, List.setIfInBounds_toArray, List.set_cons_succ, List.set_cons_zero, List.nil_append, List.cons_append]
    apply Run.valG (by go_simp)
    · intro w1 h1 hk
      have q1 := h1.cell ck; have q2 := h1.cell d5; have q3 := h1.cell dn; have hg := (Fut.drew _).trans h1
      have hcw := fun b o => Below.cell (p := ⟨b, o, none⟩) h1
      go_simp; rfl
    simp only [Act.put, List.setIfInBounds_toArray, List.set_cons_succ, List.set_cons_zero, List.nil_append, List.cons_append]
    apply Run.valG (by go_simp)
    · intro w1 h1 hk
      have q1 := h1.cell ck; have q2 := h1.cell d5; have q3 := h1.cell dn; have hg := (Fut.drew _).trans h1
      have hcw := fun b o => Below.cell (p := ⟨b, o, none⟩) h1
      go_simp; rfl
    simp only [Act.put, List.setIfInBounds_toArray, List.set_cons_succ, List.set_cons_zero, List.nil_append, List.cons_append]
    apply Run.valG (by go_simp)
    · intro w1 h1 hk
      have q1 := h1.cell ck; have q2 := h1.cell d5; have q3 := h1.cell dn; have hg := (Fut.drew _).trans h1
      have hcw := fun b o => Below.cell (p := ⟨b, o, none⟩) h1
      go_simp; rfl
    simp only [Act.put, List.setIfInBounds_toArray, List.set_cons_succ, List.set_cons_zero, List.nil_append, List.cons_append]
    apply Run.valG (by go_simp)
    · intro w1 h1 hk
      have q1 := h1.cell ck; have q2 := h1.cell d5; have q3 := h1.cell dn; have hg := (Fut.drew _).trans h1
      have hcw := fun b o => Below.cell (p := ⟨b, o, none⟩) h1
      go_simp; rfl
    simp only [Act.put, List.setIfInBounds_toArray, List.set_cons_succ, List.set_cons_zero, List.nil_append, List.cons_append]
    apply Run.valG (by go_simp)
    · intro w1 h1 hk
      have q1 := h1.cell ck; have q2 := h1.cell d5; have q3 := h1.cell dn; have hg := (Fut.drew _).trans h1
      have hcw := fun b o => Below.cell (p := ⟨b, o, none⟩) h1
      go_simp; rfl
    simp only [Act.put, List.setIfInBounds_toArray, List.set_cons_succ, List.set_cons_zero, List.nil_append, List.cons_append]
    apply Run.valG (by go_simp)
    · intro w1 h1 hk
      have q1 := h1.cell ck; have q2 := h1.cell d5; have q3 := h1.cell dn; have hg := (Fut.drew _).trans h1
      have hcw := fun b o => Below.cell (p := ⟨b, o, none⟩) h1
      go_simp; rfl
    simp only [Act.put, List.setIfInBounds_toArray, List.set_cons_succ, List.set_cons_zero, List.nil_append, List.cons_append]
    apply Run.valG (wanted_none rfl _)
    · intro w1 h1 hk
      have q1 := h1.cell ck; have q2 := h1.cell d5; have q3 := h1.cell dn; have hg := (Fut.drew _).trans h1
      have hcw := fun b o => Below.cell (p := ⟨b, o, none⟩) h1
      go_simp; rfl
    simp only [Act.put, List.setIfInBounds_toArray, List.set_cons_succ, List.set_cons_zero, List.nil_append, List.cons_append]
    apply Run.valG (wanted_none rfl _)
    · intro w1 h1 hk
      have q1 := h1.cell ck; have q2 := h1.cell d5; have q3 := h1.cell dn; have hg := (Fut.drew _).trans h1
      have hcw := fun b o => Below.cell (p := ⟨b, o, none⟩) h1
      go_simp; rfl
    simp only [Act.put, List.setIfInBounds_toArray, List.set_cons_succ, List.set_cons_zero, List.nil_append, List.cons_append]
    apply Run.valG (by go_simp)
    · intro w1 h1 hk
      have q1 := h1.cell ck; have q2 := h1.cell d5; have q3 := h1.cell dn; have hg := (Fut.drew _).trans h1
      have hcw := fun b o => Below.cell (p := ⟨b, o, none⟩) h1
      go_simp; rfl
    simp only [Act.put, List.setIfInBounds_toArray, List.set_cons_succ, List.set_cons_zero, List.nil_append, List.cons_append]
    apply Run.valG (by go_simp)
    · intro w1 h1 hk
      have q1 := h1.cell ck; have q2 := h1.cell d5; have q3 := h1.cell dn; have hg := (Fut.drew _).trans h1
      have hcw := fun b o => Below.cell (p := ⟨b, o, none⟩) h1
      go_simp; rfl
    simp only [Act.put, List.setIfInBounds_toArray, List.set_cons_succ, List.set_cons_zero, List.nil_append, List.cons_append]
    apply Run.valG (by go_simp)
    · intro w1 h1 hk
      have q1 := h1.cell ck; have q2 := h1.cell d5; have q3 := h1.cell dn; have hg := (Fut.drew _).trans h1
      have hcw := fun b o => Below.cell (p := ⟨b, o, none⟩) h1
      go_simp; rfl
    simp only [Act.put, List.setIfInBounds_toArray, List.set_cons_succ, List.set_cons_zero, List.nil_append, List.cons_append]
    apply Run.valG (by go_simp)
    · intro w1 h1 hk
      have q1 := h1.cell ck; have q2 := h1.cell d5; have q3 := h1.cell dn; have hg := (Fut.drew _).trans h1
      have hcw := fun b o => Below.cell (p := ⟨b, o, none⟩) h1
      go_simp; rfl
    simp only [Act.put, List.setIfInBounds_toArray, List.set_cons_succ, List.set_cons_zero, List.nil_append, List.cons_append]
    apply Run.valG (by go_simp)
    · intro w1 h1 hk
      have q1 := h1.cell ck; have q2 := h1.cell d5; have q3 := h1.cell dn; have hg := (Fut.drew _).trans h1
      have hcw := fun b o => Below.cell (p := ⟨b, o, none⟩) h1
      exact exec_load_R rowTy _ rfl rfl (rn.fut hg)
    simp only [Act.put, List.setIfInBounds_toArray, List.set_cons_succ, List.set_cons_zero, List.nil_append, List.cons_append]
    apply Run.valG (by go_simp)
    · intro w1 h1 hk
      have q1 := h1.cell ck; have q2 := h1.cell d5; have q3 := h1.cell dn; have hg := (Fut.drew _).trans h1
      have hcw := fun b o => Below.cell (p := ⟨b, o, none⟩) h1
      exact exec_load_R rowTy _ rfl rfl (hry.fut hg)
    simp only [Act.put, List.setIfInBounds_toArray, List.set_cons_succ, List.set_cons_zero, List.nil_append, List.cons_append]
    apply Run.valG (by go_simp)
    · intro w1 h1 hk
      have q1 := h1.cell ck; have q2 := h1.cell d5; have q3 := h1.cell dn; have hg := (Fut.drew _).trans h1
      have hcw := fun b o => Below.cell (p := ⟨b, o, none⟩) h1
      exact exec_neq_R rowTy noGuard _ _ _ rfl rfl rfl hyo hyo
    simp only [Act.put, List.setIfInBounds_toArray, List.set_cons_succ, List.set_cons_zero, List.nil_append, List.cons_append]
    apply Run.valG (wanted_none rfl _)
    · intro w1 h1 hk
      have q1 := h1.cell ck; have q2 := h1.cell d5; have q3 := h1.cell dn; have hg := (Fut.drew _).trans h1
      have hcw := fun b o => Below.cell (p := ⟨b, o, none⟩) h1
      go_simp; rfl
    simp only [Act.put, List.setIfInBounds_toArray, List.set_cons_succ, List.set_cons_zero, List.nil_append, List.cons_append]
    apply Run.done
    intro wa ha hk
    clear hk
    have Fa := (Fut.drew _).trans ha
    have ba := Fa.block h3
    have za := free_at ba 0
    have hsa := Fa.size
    have hBa := hB.fut Fa
    have hM4 := h4.trans (Only.fut Fa)
    clear ha e1 e2
    rcases Nat.eq_zero_or_pos k with rfl | hkp
    · have ca : wa.cell? ⟨u6.heap.size, 0, none⟩ = some (.int .i64 0) := cell_at ba 0 _ rfl
      rw [hr5 rfl] at hBa
      have HBa := Lib.hid hBa
      obtain ⟨g0, g1, _⟩ := hBa.cell
      have dka := Fa.cell dk
      have rowa := rowW.fut Fa
      have rya := hry.fut Fa
      clear hBa e3 hB
      have hbW : B ≤ wa.heap.size := HBa.out.base
      have hnt : ¬ FT1 bb := fun h => HBa.out.nb (HBa.out.fO _ h)
      have hnd : ¬ FD1 bb := fun h => HBa.out.nb (HBa.out.dO _ h)
      have hFa : ∀ j, FT1 j ∨ FD1 j → j < wa.heap.size := fun j hj => by have := hF3 j hj; omega
      have hlo : ∀ j, FT1 j ∨ FD1 j → ¬ (w.heap.size ≤ j ∧ j < wl.heap.size) := fun j hj h => by have := hF1 j hj; omega
      have ht0 : ¬ FT1 w.heap.size := fun h => hlo _ (.inl h) ⟨by omega, by omega⟩
      have ht1 : ¬ FT1 (w.heap.size + 1) := fun h => hlo _ (.inl h) ⟨by omega, by omega⟩
      have hd0 : ¬ FD1 w.heap.size := fun h => hlo _ (.inr h) ⟨by omega, by omega⟩
      have hd1 : ¬ FD1 (w.heap.size + 1) := fun h => hlo _ (.inr h) ⟨by omega, by omega⟩
      obtain ⟨cx, hcx⟩ : ∃ c, addC S o.row = c := ⟨_, rfl⟩
      obtain ⟨nx, hnx⟩ : ∃ n, addN S o.row = n := ⟨_, rfl⟩
      gi_wp2_with fail
      letI i1 : On.Mut := On.Mut.one 6 (Only FT1) Only.fut Only.trans
      refine On.wpIn_graph 12 [.d, .d, .d, .d, .d, .d, .r (fun v w' => v = .tuple #[.bool cx, .int .i64 nx] ∧ ∃ F', TAt B w' p (addS S o.row) F' ∧ ∀ k, F' k → FT1 k ∨ wa.heap.size ≤ k), .d, .d, .d, .d, .d] (by kernel_rfl) (by kernel_rfl) (by kernel_rfl) (by kernel_rfl) (.inr fun _ _ => trivial) On.one_dep ?_
      simp only [List.take_succ_cons, List.take_zero, List.drop_succ_cons, List.drop_zero, Exs]
      iterate 11 apply Exists.intro
      apply On.Run.valG (.inr fun _ _ => trivial) (wanted_none rfl _)
      · intro w1 h1 hk
        have hg : Only FT1 wa w1 := (Only.fut (Fut.drew _)).trans (by first | exact h1 | exact Only.fut h1); have q0 := hg.cell g0 hnt; have qk := hg.cell dka ht0
        go_simp; rfl
      simp only [Act.put, List.setIfInBounds_toArray, List.set_cons_succ, List.set_cons_zero, List.nil_append, List.cons_append]
      apply On.Run.valG (.inr fun _ _ => trivial) (wanted_none rfl _)
      · intro w1 h1 hk
        have hg : Only FT1 wa w1 := (Only.fut (Fut.drew _)).trans (by first | exact h1 | exact Only.fut h1); have q0 := hg.cell g0 hnt; have qk := hg.cell dka ht0
        go_simp; rfl
      simp only [Act.put, List.setIfInBounds_toArray, List.set_cons_succ, List.set_cons_zero, List.nil_append, List.cons_append]
      apply On.Run.valG (.inr fun _ _ => trivial) (wanted_none rfl _)
      · intro w1 h1 hk
        have hg : Only FT1 wa w1 := (Only.fut (Fut.drew _)).trans (by first | exact h1 | exact Only.fut h1); have q0 := hg.cell g0 hnt; have qk := hg.cell dka ht0
        go_simp; rfl
      simp only [Act.put, List.setIfInBounds_toArray, List.set_cons_succ, List.set_cons_zero, List.nil_append, List.cons_append]
      apply On.Run.valG (.inr fun _ _ => trivial) (wanted_none rfl _)
      · intro w1 h1 hk
        have hg : Only FT1 wa w1 := (Only.fut (Fut.drew _)).trans (by first | exact h1 | exact Only.fut h1); have q0 := hg.cell g0 hnt; have qk := hg.cell dka ht0
        go_simp; rfl
      simp only [Act.put, List.setIfInBounds_toArray, List.set_cons_succ, List.set_cons_zero, List.nil_append, List.cons_append]
      apply On.Run.valG (.inr fun _ _ => trivial) (wanted_none rfl _)
      · intro w1 h1 hk
        have hg : Only FT1 wa w1 := (Only.fut (Fut.drew _)).trans (by first | exact h1 | exact Only.fut h1); have q0 := hg.cell g0 hnt; have qk := hg.cell dka ht0
        go_simp; rfl
      simp only [Act.put, List.setIfInBounds_toArray, List.set_cons_succ, List.set_cons_zero, List.nil_append, List.cons_append]
      apply On.Run.valG (.inr fun _ _ => trivial) (wanted_none rfl _)
      · intro w1 h1 hk
        have hg : Only FT1 wa w1 := (Only.fut (Fut.drew _)).trans (by first | exact h1 | exact Only.fut h1); have q0 := hg.cell g0 hnt; have qk := hg.cell dka ht0
        exact exec_load_R rowTy _ rfl rfl (rowa.only hg ht1)
      simp only [Act.put, List.setIfInBounds_toArray, List.set_cons_succ, List.set_cons_zero, List.nil_append, List.cons_append]
      apply On.Run.mutR (.inr fun _ _ => trivial) (wanted_none rfl _) (by intro v w w' hf hs; exact (by obtain ⟨rfl, F', h1, h2⟩ := hs; exact ⟨rfl, F', h1.fut (show Fut _ _ from hf), h2⟩)) (fun _ _ => by go_simp; exact ⟨rfl, rfl⟩)
      · intro w1 h1 hk
        have hg : Only FT1 wa w1 := (Only.fut (Fut.drew _)).trans (by first | exact h1 | exact Only.fut h1); have q0 := hg.cell g0 hnt; have qk := hg.cell dka ht0
        refine (T_add (HBa.out.fut ((Fut.drew _).trans h1)).T (HBa.out.fut ((Fut.drew _).trans h1)).base hl o.row hro).mono ?_; rintro e w' ⟨rfl, hT, hO⟩; rw [hcx, hnx]; exact ⟨_, rfl, On.Eff.one hO, rfl, _, hT, fun k hk => hk.imp id fun h => Nat.le_trans ((Fut.drew _).trans h1).size h.1⟩
      intro v6
      simp only [Act.put, List.setIfInBounds_toArray, List.set_cons_succ, List.set_cons_zero, List.nil_append, List.cons_append]
      apply On.Run.valG (.inr fun _ _ => trivial) (wanted_none rfl _)
      · intro w1 h1 hk
        have f6 := Facts.get hk 0 rfl (by kernel_rfl)
        have hg : Only FT1 wa w1 := (Only.fut (Fut.drew _)).trans (by first | exact h1 | exact Only.fut h1); have q0 := hg.cell g0 hnt; have qk := hg.cell dka ht0
        obtain ⟨rfl, _⟩ := f6; go_simp; rfl
      simp only [Act.put, List.setIfInBounds_toArray, List.set_cons_succ, List.set_cons_zero, List.nil_append, List.cons_append]
      apply On.Run.valG (.inr fun _ _ => trivial) (wanted_none rfl _)
      · intro w1 h1 hk
        have hg : Only FT1 wa w1 := (Only.fut (Fut.drew _)).trans (by first | exact h1 | exact Only.fut h1); have q0 := hg.cell g0 hnt; have qk := hg.cell dka ht0
        go_simp; rfl
      simp only [Act.put, List.setIfInBounds_toArray, List.set_cons_succ, List.set_cons_zero, List.nil_append, List.cons_append]
      apply On.Run.valG (.inr fun _ _ => trivial) (wanted_none rfl _)
      · intro w1 h1 hk
        have hg : Only FT1 wa w1 := (Only.fut (Fut.drew _)).trans (by first | exact h1 | exact Only.fut h1); have q0 := hg.cell g0 hnt; have qk := hg.cell dka ht0
        go_simp; rfl
      simp only [Act.put, List.setIfInBounds_toArray, List.set_cons_succ, List.set_cons_zero, List.nil_append, List.cons_append]
      apply On.Run.valG (.inr fun _ _ => trivial) (wanted_none rfl _)
      · intro w1 h1 hk
        have f6 := Facts.get hk 0 rfl (by kernel_rfl)
        have hg : Only FT1 wa w1 := (Only.fut (Fut.drew _)).trans (by first | exact h1 | exact Only.fut h1); have q0 := hg.cell g0 hnt; have qk := hg.cell dka ht0
        go_simp; rfl
      simp only [Act.put, List.setIfInBounds_toArray, List.set_cons_succ, List.set_cons_zero, List.nil_append, List.cons_append]
      apply On.Run.valG (.inr fun _ _ => trivial) (wanted_none rfl _)
      · intro w1 h1 hk
        have hg : Only FT1 wa w1 := (Only.fut (Fut.drew _)).trans (by first | exact h1 | exact Only.fut h1); have q0 := hg.cell g0 hnt; have qk := hg.cell dka ht0
        go_simp; rfl
      simp only [Act.put, List.setIfInBounds_toArray, List.set_cons_succ, List.set_cons_zero, List.nil_append, List.cons_append]
      apply On.Run.done
      intro wb hb hk hJ
      obtain ⟨f6, _⟩ := hk
      obtain ⟨rfl, G1, hT, hb1⟩ := f6
      have hO3 : Only FT1 wa wb := (Only.fut (Fut.drew _)).trans (show Only FT1 _ _ from hb)
      clear i1 hb hJ
      have hs3 := hO3.size
      have HD := Lib.hid (HBa.out.D.only hO3 fun k hd ht => HBa.out.dis k ht hd)
      have HT := Lib.hid hT
      clear hT
      have d1 := hO3.cell g1 hnt
      have dkb := hO3.cell dka ht0
      have rowb := rowa.only hO3 ht1
      have hG2 : ∀ k, G1 k → k < wb.heap.size := HT.out.lt
      have hn1 : ∀ k, G1 k → ¬ FD1 k := fun k hk hd => (hb1 k hk).elim (fun h => HBa.out.dis k h hd) (fun h => by have := hFa k (.inr hd); omega)
      gi_wp2_with fail
      letI i2 : On.Mut := On.Mut.one 6 (Only FD1) Only.fut Only.trans
      refine On.wpIn_graph 12 [.d, .d, .d, .d, .d, .d, .r (fun v w' => v = .tuple #[.bool cx, .int .i64 nx] ∧ ∃ F2, TAt B w' p (addS S o.row) G1 ∧ DAt B w' q (addS S o.row) F2 ∧ (∀ k, G1 k → ¬ F2 k) ∧ ∀ k, F2 k → FD1 k ∨ wa.heap.size ≤ k), .d, .d, .d, .d, .d] (by kernel_rfl) (by kernel_rfl) (by kernel_rfl) (by kernel_rfl) (.inr fun _ _ => trivial) On.one_dep ?_
      simp only [List.take_succ_cons, List.take_zero, List.drop_succ_cons, List.drop_zero, Exs]
      iterate 11 apply Exists.intro
      apply On.Run.valG (.inr fun _ _ => trivial) (wanted_none rfl _)
      · intro w1 h1 hk
        have hg : Only FD1 wb w1 := (Only.fut (Fut.drew _)).trans (by first | exact h1 | exact Only.fut h1); have q0 := hg.cell d1 hnd; have qk := hg.cell dkb hd0
        go_simp; rfl
      simp only [Act.put, List.setIfInBounds_toArray, List.set_cons_succ, List.set_cons_zero, List.nil_append, List.cons_append]
      apply On.Run.valG (.inr fun _ _ => trivial) (wanted_none rfl _)
      · intro w1 h1 hk
        have hg : Only FD1 wb w1 := (Only.fut (Fut.drew _)).trans (by first | exact h1 | exact Only.fut h1); have q0 := hg.cell d1 hnd; have qk := hg.cell dkb hd0
        go_simp; rfl
      simp only [Act.put, List.setIfInBounds_toArray, List.set_cons_succ, List.set_cons_zero, List.nil_append, List.cons_append]
      apply On.Run.valG (.inr fun _ _ => trivial) (wanted_none rfl _)
      · intro w1 h1 hk
        have hg : Only FD1 wb w1 := (Only.fut (Fut.drew _)).trans (by first | exact h1 | exact Only.fut h1); have q0 := hg.cell d1 hnd; have qk := hg.cell dkb hd0
        go_simp; rfl
      simp only [Act.put, List.setIfInBounds_toArray, List.set_cons_succ, List.set_cons_zero, List.nil_append, List.cons_append]
      apply On.Run.valG (.inr fun _ _ => trivial) (wanted_none rfl _)
      · intro w1 h1 hk
        have hg : Only FD1 wb w1 := (Only.fut (Fut.drew _)).trans (by first | exact h1 | exact Only.fut h1); have q0 := hg.cell d1 hnd; have qk := hg.cell dkb hd0
        go_simp; rfl
      simp only [Act.put, List.setIfInBounds_toArray, List.set_cons_succ, List.set_cons_zero, List.nil_append, List.cons_append]
      apply On.Run.valG (.inr fun _ _ => trivial) (wanted_none rfl _)
      · intro w1 h1 hk
        have hg : Only FD1 wb w1 := (Only.fut (Fut.drew _)).trans (by first | exact h1 | exact Only.fut h1); have q0 := hg.cell d1 hnd; have qk := hg.cell dkb hd0
        go_simp; rfl
      simp only [Act.put, List.setIfInBounds_toArray, List.set_cons_succ, List.set_cons_zero, List.nil_append, List.cons_append]
      apply On.Run.valG (.inr fun _ _ => trivial) (wanted_none rfl _)
      · intro w1 h1 hk
        have hg : Only FD1 wb w1 := (Only.fut (Fut.drew _)).trans (by first | exact h1 | exact Only.fut h1); have q0 := hg.cell d1 hnd; have qk := hg.cell dkb hd0
        exact exec_load_R rowTy _ rfl rfl (rowb.only hg hd1)
      simp only [Act.put, List.setIfInBounds_toArray, List.set_cons_succ, List.set_cons_zero, List.nil_append, List.cons_append]
      apply On.Run.mutR (.inr fun _ _ => trivial) (wanted_none rfl _) (by intro v w w' hf hs; exact (by obtain ⟨rfl, F', h1, h2, h3⟩ := hs; exact ⟨rfl, F', h1.fut (show Fut _ _ from hf), h2.fut (show Fut _ _ from hf), h3⟩)) (fun _ _ => by go_simp; exact ⟨rfl, rfl⟩)
      · intro w1 h1 hk
        have hg : Only FD1 wb w1 := (Only.fut (Fut.drew _)).trans (by first | exact h1 | exact Only.fut h1); have q0 := hg.cell d1 hnd; have qk := hg.cell dkb hd0
        refine (D_add (HD.out.fut ((Fut.drew _).trans h1)) (Nat.le_trans hbW (Nat.le_trans hs3 hg.size)) hl o.row hro).mono ?_; rintro e w' ⟨rfl, hD, hO⟩; rw [hcx, hnx]; exact ⟨_, rfl, On.Eff.one hO, rfl, _, (HT.out.fut ((Fut.drew _).trans h1)).only hO hn1, hD, fun k h3 h4 => h4.elim (hn1 k h3) fun h => (by have := hG2 k h3; have := hg.size; omega), fun k hk => hk.imp id fun h => (by have := hg.size; omega)⟩
      intro v6
      simp only [Act.put, List.setIfInBounds_toArray, List.set_cons_succ, List.set_cons_zero, List.nil_append, List.cons_append]
      apply On.Run.valG (.inr fun _ _ => trivial) (wanted_none rfl _)
      · intro w1 h1 hk
        have f6 := Facts.get hk 0 rfl (by kernel_rfl)
        have hg : Only FD1 wb w1 := (Only.fut (Fut.drew _)).trans (by first | exact h1 | exact Only.fut h1); have q0 := hg.cell d1 hnd; have qk := hg.cell dkb hd0
        obtain ⟨rfl, _⟩ := f6; go_simp; rfl
      simp only [Act.put, List.setIfInBounds_toArray, List.set_cons_succ, List.set_cons_zero, List.nil_append, List.cons_append]
      apply On.Run.valG (.inr fun _ _ => trivial) (wanted_none rfl _)
      · intro w1 h1 hk
        have hg : Only FD1 wb w1 := (Only.fut (Fut.drew _)).trans (by first | exact h1 | exact Only.fut h1); have q0 := hg.cell d1 hnd; have qk := hg.cell dkb hd0
        go_simp; rfl
      simp only [Act.put, List.setIfInBounds_toArray, List.set_cons_succ, List.set_cons_zero, List.nil_append, List.cons_append]
      apply On.Run.valG (.inr fun _ _ => trivial) (wanted_none rfl _)
      · intro w1 h1 hk
        have hg : Only FD1 wb w1 := (Only.fut (Fut.drew _)).trans (by first | exact h1 | exact Only.fut h1); have q0 := hg.cell d1 hnd; have qk := hg.cell dkb hd0
        go_simp; rfl
      simp only [Act.put, List.setIfInBounds_toArray, List.set_cons_succ, List.set_cons_zero, List.nil_append, List.cons_append]
      apply On.Run.valG (.inr fun _ _ => trivial) (wanted_none rfl _)
      · intro w1 h1 hk
        have f6 := Facts.get hk 0 rfl (by kernel_rfl)
        have hg : Only FD1 wb w1 := (Only.fut (Fut.drew _)).trans (by first | exact h1 | exact Only.fut h1); have q0 := hg.cell d1 hnd; have qk := hg.cell dkb hd0
        go_simp; rfl
      simp only [Act.put, List.setIfInBounds_toArray, List.set_cons_succ, List.set_cons_zero, List.nil_append, List.cons_append]
      apply On.Run.valG (.inr fun _ _ => trivial) (wanted_none rfl _)
      · intro w1 h1 hk
        have hg : Only FD1 wb w1 := (Only.fut (Fut.drew _)).trans (by first | exact h1 | exact Only.fut h1); have q0 := hg.cell d1 hnd; have qk := hg.cell dkb hd0
        go_simp; rfl
      simp only [Act.put, List.setIfInBounds_toArray, List.set_cons_succ, List.set_cons_zero, List.nil_append, List.cons_append]
      apply On.Run.done
      intro wc hc hk hJ
      obtain ⟨f6, _⟩ := hk
      obtain ⟨rfl, G2, hT2, hD2, hdis, hb2⟩ := f6
      have hO4 : Only FD1 wb wc := (Only.fut (Fut.drew _)).trans (show Only FD1 _ _ from hc)
      have hO : Only (fun k => FT1 k ∨ FD1 k) wa wc := (hO3.mono fun k _ hk => .inl hk).trans (hO4.mono fun k _ hk => .inr hk)
      clear i2 hc hJ
      have hs4 := hO.size
      obtain ⟨hBc, hOc⟩ := both_turn HBa.out hT2 hD2 hdis hb1 hb2 hO
      have HBc := Lib.hid hBc
      obtain ⟨x0, x1, _⟩ := hBc.cell
      have dkc := hO4.cell dkb hd0
      have ryc := rya.only hO (fun h => by have := hF3 _ h; omega)
      have bc := hO.keeps ba (fun h => hlo _ h ⟨by omega, by omega⟩)
      have xT : ∀ j, G1 j → FT1 j ∨ wa.heap.size ≤ j := hb1
      have xD : ∀ j, G2 j → FD1 j ∨ wa.heap.size ≤ j := hb2
      have hlo2 : ∀ j, G1 j ∨ G2 j → ¬ (w.heap.size ≤ j ∧ j < wl.heap.size) := fun j hj h => by
        rcases hj with hj | hj
        · rcases xT j hj with hj | hj
          · exact hlo j (.inl hj) h
          · omega
        · rcases xD j hj with hj | hj
          · exact hlo j (.inr hj) h
          · omega
      have hnW : ¬ (G1 W.heap.size ∨ G2 W.heap.size) := fun hj => by
        rcases hj with hj | hj
        · rcases xT _ hj with hj | hj
          · have := hF3 _ (.inl hj); omega
          · omega
        · rcases xD _ hj with hj | hj
          · have := hF3 _ (.inr hj); omega
          · omega
      have hnb2 : ¬ (G1 bb ∨ G2 bb) := fun h => HBc.out.nb (h.elim (HBc.out.fO _) (HBc.out.dO _))
      have hn0 : ¬ (G1 w.heap.size ∨ G2 w.heap.size) := fun h => hlo2 _ h ⟨by omega, by omega⟩
      have hDlt : ∀ k, G2 k → k < wc.heap.size := HBc.out.D.lt
      have hrl : (rowsS (addS S o.row)).length ≤ 1353244080301 := by have := add_len S o.row; omega
      have hgl : goneS (addS S o.row) < 4611686018427387904 := by rw [add_gone0]; exact hgn
      obtain ⟨dx, hdx⟩ : ∃ d, decide (y ∈ rowsS (addS S o.row)) = d := ⟨_, rfl⟩
      clear hBc HD HT dka dkb rowa rowb rya d1 g0 g1 hT2 hD2 za
      gi_wp2_with fail
      letI i3 : On.Mut := On.Mut.two 14 20 (Only G1) (Only G2) (Only fun k => G1 k ∨ G2 k) Only.fut Only.fut Only.fut Only.trans Only.trans
      refine On.wpIn_graph 23 [.d, .d, .d, .d, .d, .d, .d, .d, .d, .d, .d, .d, .d, .d, .r (fun v w' => v = .bool dx ∧ ∃ F', TAt B w' p (remS (addS S o.row) y) F' ∧ ∀ k, F' k → G1 k ∨ wc.heap.size ≤ k), .d, .d, .d, .d, .d, .r (fun v w' => v = .bool dx ∧ ∃ F1 F2, TAt B w' p (remS (addS S o.row) y) F1 ∧ DAt B w' q (remS (addS S o.row) y) F2 ∧ (∀ k, F1 k → ¬ F2 k) ∧ (∀ k, F1 k → G1 k ∨ wc.heap.size ≤ k) ∧ ∀ k, F2 k → G2 k ∨ wc.heap.size ≤ k), .d, .d] (by kernel_rfl) (by kernel_rfl) (by kernel_rfl) (by kernel_rfl) (.inr fun _ _ => trivial) (On.two_dep (by kernel_rfl)) ?_
      simp only [List.take_succ_cons, List.take_zero, List.drop_succ_cons, List.drop_zero, Exs]
      iterate 21 apply Exists.intro
      apply On.Run.valG (.inr fun _ _ => trivial) (wanted_none rfl _)
      · intro w1 h1 hk
        have hg : Only (fun k => G1 k ∨ G2 k) wc w1 := (Only.fut (Fut.drew _)).trans (by first | exact h1 | exact Only.fut h1 | exact Only.mono (show Only G1 _ _ from h1) fun k _ hk => .inl hk); have q0 := hg.cell x0 hnb2; have q1 := hg.cell x1 hnb2; have qk := hg.cell dkc hn0
        go_simp; rfl
      simp only [Act.put, List.setIfInBounds_toArray, List.set_cons_succ, List.set_cons_zero, List.nil_append, List.cons_append]
      apply On.Run.valG (.inr fun _ _ => trivial) (wanted_none rfl _)
      · intro w1 h1 hk
        have hg : Only (fun k => G1 k ∨ G2 k) wc w1 := (Only.fut (Fut.drew _)).trans (by first | exact h1 | exact Only.fut h1 | exact Only.mono (show Only G1 _ _ from h1) fun k _ hk => .inl hk); have q0 := hg.cell x0 hnb2; have q1 := hg.cell x1 hnb2; have qk := hg.cell dkc hn0
        go_simp; rfl
      simp only [Act.put, List.setIfInBounds_toArray, List.set_cons_succ, List.set_cons_zero, List.nil_append, List.cons_append]
      apply On.Run.valG (.inr fun _ _ => trivial) (wanted_none rfl _)
      · intro w1 h1 hk
        have hg : Only (fun k => G1 k ∨ G2 k) wc w1 := (Only.fut (Fut.drew _)).trans (by first | exact h1 | exact Only.fut h1 | exact Only.mono (show Only G1 _ _ from h1) fun k _ hk => .inl hk); have q0 := hg.cell x0 hnb2; have q1 := hg.cell x1 hnb2; have qk := hg.cell dkc hn0
        go_simp; rfl
      simp only [Act.put, List.setIfInBounds_toArray, List.set_cons_succ, List.set_cons_zero, List.nil_append, List.cons_append]
      apply On.Run.valG (.inr fun _ _ => trivial) (wanted_none rfl _)
      · intro w1 h1 hk
        have hg : Only (fun k => G1 k ∨ G2 k) wc w1 := (Only.fut (Fut.drew _)).trans (by first | exact h1 | exact Only.fut h1 | exact Only.mono (show Only G1 _ _ from h1) fun k _ hk => .inl hk); have q0 := hg.cell x0 hnb2; have q1 := hg.cell x1 hnb2; have qk := hg.cell dkc hn0
        go_simp; rfl
      simp only [Act.put, List.setIfInBounds_toArray, List.set_cons_succ, List.set_cons_zero, List.nil_append, List.cons_append]
      apply On.Run.valG (.inr fun _ _ => trivial) (by go_simp)
      · intro w1 h1 hk
        have hg : Only (fun k => G1 k ∨ G2 k) wc w1 := (Only.fut (Fut.drew _)).trans (by first | exact h1 | exact Only.fut h1 | exact Only.mono (show Only G1 _ _ from h1) fun k _ hk => .inl hk); have q0 := hg.cell x0 hnb2; have q1 := hg.cell x1 hnb2; have qk := hg.cell dkc hn0
        go_simp; rfl
      simp only [Act.put, List.setIfInBounds_toArray, List.set_cons_succ, List.set_cons_zero, List.nil_append, List.cons_append]
      apply On.Run.valG (.inr fun _ _ => trivial) (by go_simp)
      · intro w1 h1 hk
        have hg : Only (fun k => G1 k ∨ G2 k) wc w1 := (Only.fut (Fut.drew _)).trans (by first | exact h1 | exact Only.fut h1 | exact Only.mono (show Only G1 _ _ from h1) fun k _ hk => .inl hk); have q0 := hg.cell x0 hnb2; have q1 := hg.cell x1 hnb2; have qk := hg.cell dkc hn0
        go_simp; rfl
      simp only [Act.put, List.setIfInBounds_toArray, List.set_cons_succ, List.set_cons_zero, List.nil_append, List.cons_append]
      apply On.Run.valG (.inr fun _ _ => trivial) (by go_simp)
      · intro w1 h1 hk
        have hg : Only (fun k => G1 k ∨ G2 k) wc w1 := (Only.fut (Fut.drew _)).trans (by first | exact h1 | exact Only.fut h1 | exact Only.mono (show Only G1 _ _ from h1) fun k _ hk => .inl hk); have q0 := hg.cell x0 hnb2; have q1 := hg.cell x1 hnb2; have qk := hg.cell dkc hn0
        go_simp; rfl
      simp only [Act.put, List.setIfInBounds_toArray, List.set_cons_succ, List.set_cons_zero, List.nil_append, List.cons_append]
      apply On.Run.valG (.inr fun _ _ => trivial) (wanted_none rfl _)
      · intro w1 h1 hk
        have hg : Only (fun k => G1 k ∨ G2 k) wc w1 := (Only.fut (Fut.drew _)).trans (by first | exact h1 | exact Only.fut h1 | exact Only.mono (show Only G1 _ _ from h1) fun k _ hk => .inl hk); have q0 := hg.cell x0 hnb2; have q1 := hg.cell x1 hnb2; have qk := hg.cell dkc hn0
        go_simp; rfl
      simp only [Act.put, List.setIfInBounds_toArray, List.set_cons_succ, List.set_cons_zero, List.nil_append, List.cons_append]
      apply On.Run.valG (.inr fun _ _ => trivial) (wanted_none rfl _)
      · intro w1 h1 hk
        have hg : Only (fun k => G1 k ∨ G2 k) wc w1 := (Only.fut (Fut.drew _)).trans (by first | exact h1 | exact Only.fut h1 | exact Only.mono (show Only G1 _ _ from h1) fun k _ hk => .inl hk); have q0 := hg.cell x0 hnb2; have q1 := hg.cell x1 hnb2; have qk := hg.cell dkc hn0
        go_simp; rfl
      simp only [Act.put, List.setIfInBounds_toArray, List.set_cons_succ, List.set_cons_zero, List.nil_append, List.cons_append]
      apply On.Run.valG (.inr fun _ _ => trivial) (by go_simp)
      · intro w1 h1 hk
        have hg : Only (fun k => G1 k ∨ G2 k) wc w1 := (Only.fut (Fut.drew _)).trans (by first | exact h1 | exact Only.fut h1 | exact Only.mono (show Only G1 _ _ from h1) fun k _ hk => .inl hk); have q0 := hg.cell x0 hnb2; have q1 := hg.cell x1 hnb2; have qk := hg.cell dkc hn0
        go_simp; rfl
      simp only [Act.put, List.setIfInBounds_toArray, List.set_cons_succ, List.set_cons_zero, List.nil_append, List.cons_append]
      apply On.Run.valG (.inr fun _ _ => trivial) (by go_simp)
      · intro w1 h1 hk
        have hg : Only (fun k => G1 k ∨ G2 k) wc w1 := (Only.fut (Fut.drew _)).trans (by first | exact h1 | exact Only.fut h1 | exact Only.mono (show Only G1 _ _ from h1) fun k _ hk => .inl hk); have q0 := hg.cell x0 hnb2; have q1 := hg.cell x1 hnb2; have qk := hg.cell dkc hn0
        go_simp; rfl
      simp only [Act.put, List.setIfInBounds_toArray, List.set_cons_succ, List.set_cons_zero, List.nil_append, List.cons_append]
      apply On.Run.valG (.inr fun _ _ => trivial) (by go_simp)
      · intro w1 h1 hk
        have hg : Only (fun k => G1 k ∨ G2 k) wc w1 := (Only.fut (Fut.drew _)).trans (by first | exact h1 | exact Only.fut h1 | exact Only.mono (show Only G1 _ _ from h1) fun k _ hk => .inl hk); have q0 := hg.cell x0 hnb2; have q1 := hg.cell x1 hnb2; have qk := hg.cell dkc hn0
        go_simp; rfl
      simp only [Act.put, List.setIfInBounds_toArray, List.set_cons_succ, List.set_cons_zero, List.nil_append, List.cons_append]
      apply On.Run.valG (.inr fun _ _ => trivial) (by go_simp)
      · intro w1 h1 hk
        have hg : Only (fun k => G1 k ∨ G2 k) wc w1 := (Only.fut (Fut.drew _)).trans (by first | exact h1 | exact Only.fut h1 | exact Only.mono (show Only G1 _ _ from h1) fun k _ hk => .inl hk); have q0 := hg.cell x0 hnb2; have q1 := hg.cell x1 hnb2; have qk := hg.cell dkc hn0
        go_simp; rfl
      simp only [Act.put, List.setIfInBounds_toArray, List.set_cons_succ, List.set_cons_zero, List.nil_append, List.cons_append]
      apply On.Run.valG (.inr fun _ _ => trivial) (by go_simp)
      · intro w1 h1 hk
        have hg : Only (fun k => G1 k ∨ G2 k) wc w1 := (Only.fut (Fut.drew _)).trans (by first | exact h1 | exact Only.fut h1 | exact Only.mono (show Only G1 _ _ from h1) fun k _ hk => .inl hk); have q0 := hg.cell x0 hnb2; have q1 := hg.cell x1 hnb2; have qk := hg.cell dkc hn0
        exact exec_load_R rowTy _ rfl rfl (ryc.only hg hnW)
      simp only [Act.put, List.setIfInBounds_toArray, List.set_cons_succ, List.set_cons_zero, List.nil_append, List.cons_append]
      apply On.Run.mutR (.inr fun _ _ => trivial) (by go_simp) (by intro v w w' hf hs; exact (by obtain ⟨rfl, F', h1, h2⟩ := hs; exact ⟨rfl, F', h1.only (show Only G2 _ _ from hf) (fun k hk hd => by rcases h2 k hk with h | h; exact HBc.out.dis k h hd; have := hDlt k hd; omega), h2⟩)) (fun _ _ => by go_simp; exact ⟨rfl, rfl⟩)
      · intro w1 h1 hk
        have hg : Only (fun k => G1 k ∨ G2 k) wc w1 := (Only.fut (Fut.drew _)).trans (by first | exact h1 | exact Only.fut h1 | exact Only.mono (show Only G1 _ _ from h1) fun k _ hk => .inl hk); have q0 := hg.cell x0 hnb2; have q1 := hg.cell x1 hnb2; have qk := hg.cell dkc hn0
        refine (T_remove (HBc.out.fut ((Fut.drew _).trans h1)).T (HBc.out.fut ((Fut.drew _).trans h1)).base hrl hgl y hyo).mono ?_; rintro e w' ⟨rfl, hT, hO⟩; rw [hdx]; exact ⟨_, rfl, On.Eff.two1 hO (hO.mono fun k _ hk => .inl hk), rfl, _, hT, fun k hk => hk.imp id fun h => Nat.le_trans ((Fut.drew _).trans h1).size h.1⟩
      intro v14
      simp only [Act.put, List.setIfInBounds_toArray, List.set_cons_succ, List.set_cons_zero, List.nil_append, List.cons_append]
      apply On.Run.valG (.inr fun _ _ => trivial) (by go_simp)
      · intro w1 h1 hk
        have hg : Only (fun k => G1 k ∨ G2 k) wc w1 := (Only.fut (Fut.drew _)).trans (by first | exact h1 | exact Only.fut h1 | exact Only.mono (show Only G1 _ _ from h1) fun k _ hk => .inl hk); have q0 := hg.cell x0 hnb2; have q1 := hg.cell x1 hnb2; have qk := hg.cell dkc hn0
        go_simp; rfl
      simp only [Act.put, List.setIfInBounds_toArray, List.set_cons_succ, List.set_cons_zero, List.nil_append, List.cons_append]
      apply On.Run.valG (.inr fun _ _ => trivial) (by go_simp)
      · intro w1 h1 hk
        have hg : Only (fun k => G1 k ∨ G2 k) wc w1 := (Only.fut (Fut.drew _)).trans (by first | exact h1 | exact Only.fut h1 | exact Only.mono (show Only G1 _ _ from h1) fun k _ hk => .inl hk); have q0 := hg.cell x0 hnb2; have q1 := hg.cell x1 hnb2; have qk := hg.cell dkc hn0
        go_simp; rfl
      simp only [Act.put, List.setIfInBounds_toArray, List.set_cons_succ, List.set_cons_zero, List.nil_append, List.cons_append]
      apply On.Run.valG (.inr fun _ _ => trivial) (by go_simp)
      · intro w1 h1 hk
        have hg : Only (fun k => G1 k ∨ G2 k) wc w1 := (Only.fut (Fut.drew _)).trans (by first | exact h1 | exact Only.fut h1 | exact Only.mono (show Only G1 _ _ from h1) fun k _ hk => .inl hk); have q0 := hg.cell x0 hnb2; have q1 := hg.cell x1 hnb2; have qk := hg.cell dkc hn0
        go_simp; rfl
      simp only [Act.put, List.setIfInBounds_toArray, List.set_cons_succ, List.set_cons_zero, List.nil_append, List.cons_append]
      apply On.Run.valG (.inr fun _ _ => trivial) (by go_simp)
      · intro w1 h1 hk
        have hg : Only (fun k => G1 k ∨ G2 k) wc w1 := (Only.fut (Fut.drew _)).trans (by first | exact h1 | exact Only.fut h1 | exact Only.mono (show Only G1 _ _ from h1) fun k _ hk => .inl hk); have q0 := hg.cell x0 hnb2; have q1 := hg.cell x1 hnb2; have qk := hg.cell dkc hn0
        go_simp; rfl
      simp only [Act.put, List.setIfInBounds_toArray, List.set_cons_succ, List.set_cons_zero, List.nil_append, List.cons_append]
      apply On.Run.valG (.inr fun _ _ => trivial) (by go_simp)
      · intro w1 h1 hk
        have hg : Only (fun k => G1 k ∨ G2 k) wc w1 := (Only.fut (Fut.drew _)).trans (by first | exact h1 | exact Only.fut h1 | exact Only.mono (show Only G1 _ _ from h1) fun k _ hk => .inl hk); have q0 := hg.cell x0 hnb2; have q1 := hg.cell x1 hnb2; have qk := hg.cell dkc hn0
        exact exec_load_R rowTy _ rfl rfl (ryc.only hg hnW)
      simp only [Act.put, List.setIfInBounds_toArray, List.set_cons_succ, List.set_cons_zero, List.nil_append, List.cons_append]
      apply On.Run.mutR (.inr fun _ _ => trivial) (by go_simp) (by intro v w w' hf hs; exact (by obtain ⟨rfl, F1, F2, h1, h2, h3⟩ := hs; exact ⟨rfl, F1, F2, h1.fut (show Fut _ _ from hf), h2.fut (show Fut _ _ from hf), h3⟩)) (fun _ _ => by go_simp; exact ⟨rfl, rfl⟩)
      · intro w1 h1 hk
        have f14 := Facts.get hk 0 rfl (by kernel_rfl)
        have hg : Only (fun k => G1 k ∨ G2 k) wc w1 := (Only.fut (Fut.drew _)).trans (by first | exact h1 | exact Only.fut h1 | exact Only.mono (show Only G1 _ _ from h1) fun k _ hk => .inl hk); have q0 := hg.cell x0 hnb2; have q1 := hg.cell x1 hnb2; have qk := hg.cell dkc hn0
        obtain ⟨rfl, G3, hT, hb⟩ := f14; have hn3 : ∀ k, G3 k → ¬ G2 k := fun k hk hd => (hb k hk).elim (fun h => HBc.out.dis k h hd) (fun h => by have := hDlt k hd; omega); refine (D_remove (HBc.out.D.only ((Only.fut (Fut.drew _)).trans (show Only G1 _ _ from h1)) fun k hd ht => HBc.out.dis k ht hd) (Nat.le_trans HBc.out.base hg.size) hrl hgl y hyo).mono ?_; rintro e w' ⟨rfl, hD, hO⟩; rw [hdx]; exact ⟨_, rfl, On.Eff.two2 hO (hO.mono fun k _ hk => .inr hk), rfl, G3, _, hT.only hO hn3, hD, fun k h1 h2 => h2.elim (hn3 k h1) fun h => (by have := hT.lt k h1; omega), hb, fun k hk => hk.imp id fun h => Nat.le_trans hg.size h.1⟩
      intro v20
      simp only [Act.put, List.setIfInBounds_toArray, List.set_cons_succ, List.set_cons_zero, List.nil_append, List.cons_append]
      apply On.Run.valG (.inr fun _ _ => trivial) (by go_simp)
      · intro w1 h1 hk
        have f14 := Facts.get hk 0 rfl (by kernel_rfl)
        have f20 := Facts.get hk 1 rfl (by kernel_rfl)
        have hg : Only (fun k => G1 k ∨ G2 k) wc w1 := (Only.fut (Fut.drew _)).trans (by first | exact h1 | exact Only.fut h1 | exact Only.mono (show Only G1 _ _ from h1) fun k _ hk => .inl hk); have q0 := hg.cell x0 hnb2; have q1 := hg.cell x1 hnb2; have qk := hg.cell dkc hn0
        obtain ⟨rfl, _⟩ := f14; obtain ⟨rfl, _⟩ := f20; go_simp; rfl
      simp only [Act.put, List.setIfInBounds_toArray, List.set_cons_succ, List.set_cons_zero, List.nil_append, List.cons_append]
      apply On.Run.valG (.inr fun _ _ => trivial) (wanted_none rfl _)
      · intro w1 h1 hk
        have hg : Only (fun k => G1 k ∨ G2 k) wc w1 := (Only.fut (Fut.drew _)).trans (by first | exact h1 | exact Only.fut h1 | exact Only.mono (show Only G1 _ _ from h1) fun k _ hk => .inl hk); have q0 := hg.cell x0 hnb2; have q1 := hg.cell x1 hnb2; have qk := hg.cell dkc hn0
        go_simp; rfl
      simp only [Act.put, List.setIfInBounds_toArray, List.set_cons_succ, List.set_cons_zero, List.nil_append, List.cons_append]
      apply On.Run.done
      intro wd hd hk hJ
      obtain ⟨f14, f20, _⟩ := hk
      obtain ⟨rfl, G3, G4, hT, hD, hdis2, hb3, hb4⟩ := f20
      have hO5 : Only (fun k => G1 k ∨ G2 k) wc wd := (Only.fut (Fut.drew _)).trans (show Only (fun k => G1 k ∨ G2 k) _ _ from hd)
      clear i3 hd hJ
      have hs5 := hO5.size
      obtain ⟨hBd, hOd⟩ := both_turn HBc.out hT hD hdis2 hb3 hb4 hO5
      have bd := hO5.keeps bc (fun h => hlo2 _ h ⟨by omega, by omega⟩)
      have cd : wd.cell? ⟨u6.heap.size, 0, none⟩ = some (.int .i64 0) := cell_at bd 0 _ rfl
      have zd := free_at bd 0
      have HBd := Lib.hid hBd
      clear hBd hT hD
      gi_wp2
      have OS : Only (fun j => j = u6.heap.size) wd (wd.setCell ⟨u6.heap.size, 0, none⟩ (.int .i64 1)) := Only.set _ _ rfl
      have hsS := OS.size
      have q1 : ∀ j, O1 j → j < w.heap.size ∨ s ≤ j := fun j hj => (hr4 j hj).imp (HOl.out j) id
      have q2 : ∀ j, more O1 wa wc j → j < w.heap.size ∨ s ≤ j := fun j hj => hj.elim (q1 j) fun h => by omega
      have q3 : ∀ j, more (more O1 wa wc) wc wd j → O j ∨ s ≤ j := fun j hj => hj.elim (fun h => h.elim (hr4 j) fun h => .inr (by omega)) fun h => .inr (by omega)
      have q4 : ∀ j, more O1 wa wc j → j < wl.heap.size → O j ∨ j = u6.heap.size := fun j hj hlt => hj.elim (fun h => (hr4 j h).elim .inl fun h => by omega) fun h => by omega
      have q5 : ∀ j, more (more O1 wa wc) wc wd j → j < w.heap.size ∨ s ≤ j := fun j hj => (q3 j hj).imp (HOl.out j) id
      refine ⟨⟨by omega, fun j hj1 hj2 => ?_⟩, set_blk bd, ((hM4.then hOc fun j hj hlt => q4 j (.inl hj) hlt).then hOd q4).trans (OS.mono fun j _ hj => .inr hj), remS (addS S o.row) y, more (more O1 wa wc) wc wd, G3, G4, HBd.out.only OS (fun j hj e => by have := q5 j hj; omega) (by omega), ?_, ?_, ?_, q3, fun h => absurd h (by omega)⟩
      · exact (OS.block j (by omega) (by omega)).trans ((hOd.block j (by omega) fun h => by have := q2 j h; omega).trans ((hOc.block j (by omega) fun h => by have := q1 j h; omega).trans (Below.block Fa j (by omega))))
      · exact Nat.le_trans (rem_le _ y) (add_len S o.row)
      · exact Nat.le_trans (rem_gone _ y) (by rw [add_gone0]; exact Nat.le_refl _)
      · intro h; rw [h]; rfl
    · have ca := cell_at ba 0 _ rfl
      have hne : ¬ (k : Int) = 0 := by omega
      gi_wp2
      have OS : Only (fun j => j = u6.heap.size) wa (wa.setCell ⟨u6.heap.size, 0, none⟩ (.int .i64 ((k + 1 : Nat) : Int))) := Only.set _ _ rfl
      refine ⟨⟨Nat.le_trans hsa OS.size, fun j hj1 hj2 => ?_⟩, set_blk ba, hM4.trans (OS.mono fun j _ hj => .inr hj), S1, O1, FT1, FD1, hBa.only OS (fun j hj e => (hr4 j hj).elim (fun h => by have := HOl.out j h; omega) fun h => by omega) (by omega), hr1, hr2, hr3, hr4, fun h => absurd h (by omega)⟩
      exact (OS.block j (by omega) (by omega)).trans (Below.block Fa j (by omega))
  case hdone =>
    rintro s W hs ⟨h3, h4, S1, O1, FT1, FD1, hB, hr1, hr2, hr3, hr4, hr5⟩ hK
    have hwl : w.heap.size + 3 < wl.heap.size := by omega
    have hnO : ∀ j, w.heap.size ≤ j → j ≠ u6.heap.size → ¬ (O j ∨ j = u6.heap.size) := fun j hj hne h => h.elim (fun h => by have := HOl.out j h; omega) hne
    have ck := cell_at h3 0 _ rfl
    have cw := h4.cell (cell_at B57 0 (.slice A8 N cap8) rfl) (hnO b5 (by omega) (by omega))
    have B3W := h4.keeps B37 (hnO (w.heap.size + 1 + 1) (by omega) (by omega))
    have z3 := free_at B3W 0
    have d3 := cell_at B3W 0 _ rfl
    go_wp2
    have OS : Only (fun k => k = w.heap.size + 1 + 1) W (W.setCell ⟨w.heap.size + 1 + 1, 0, none⟩ (Value.bool true)) := Only.set _ _ rfl
    have OP : Only (fun k => k = wl.heap.size) (W.setCell ⟨w.heap.size + 1 + 1, 0, none⟩ (Value.bool true)) ((W.setCell ⟨w.heap.size + 1 + 1, 0, none⟩ (Value.bool true)).putObj wl.heap.size (.deferred none)) := Only.put _ _ rfl
    have hKf := OS.keeps hK (by show ¬ wl.heap.size = w.heap.size + 1 + 1; omega)
    have hBf := OP.keeps (set_blk B3W (i := 0) (v := Value.bool true)) (by show ¬ w.heap.size + 1 + 1 = wl.heap.size; omega)
    refine ⟨by simp, .inl ⟨_, _, rfl, run_takeDeferred hKf, ?_⟩⟩
    refine ⟨_, results_cellB rfl rfl (cell_at hBf 0 _ rfl), ?_⟩
    have OT := (OS.mono (S' := fun j => j = w.heap.size + 1 + 1 ∨ j = wl.heap.size) fun j _ hj => .inl hj).trans (OP.mono fun j _ hj => .inr hj)
    have OO : Only O w _ := ((Only.fut FL.out).then h4 (fun j hj hlt => hj.elim id fun e => by omega)).then OT (fun j hj hlt => by omega)
    have hsz := FL.out.size
    exact ⟨rfl, S1, O1, kv, f, t, FT1, FD1, hB.only OT (fun j hj e => (hr4 j hj).elim (fun h => by have := HOl.out j h; omega) fun h => by omega) (by omega), hr1, hr2, hr3, fun j hj => (hr4 j hj).imp id fun h => by omega, OO.mono fun j _ hj => .inl hj, SameBut.of_same fun ob hob => OO.keeps hob hnbO⟩
  case hstop => exact fun _ _ _ _ h _ => h.elim
end
end Go.Proofs.Ytcekphjcmippoaa
/-
  The rule of XOn, where one operation may wait for another along a way of dependencies. Printed by gond.py.
-/
namespace Go.Proofs.Ytcekphjcmippoaa.OnD
open Go.RowKit
set_option linter.unusedSimpArgs false
set_option linter.unusedVariables false

def jB (jm : Nat) (js : Tmp) (ops : Array Oper) (n : Nat) : Bool :=
  decide (jm < n) && (match ops[jm]? with | none => false | some o => decide (js ∈ o.looksAt ops)) && (List.range n).all fun k => dstAt ops k != some js || decide (k < jm)
theorem jB_spec {jm : Nat} {js : Tmp} {ops : Array Oper} {n : Nat} (h : jB jm js ops n = true) : jm < n ∧ (∀ o, ops[jm]? = some o → js ∈ o.looksAt ops) ∧ ∀ k, k < n → dstAt ops k = some js → k < jm := by
  simp only [jB, Bool.and_eq_true, decide_eq_true_eq, List.all_eq_true, List.mem_range] at h
  obtain ⟨⟨h1, h2⟩, h3⟩ := h
  refine ⟨h1, fun o ho => ?_, fun k hk hd => ?_⟩
  · rw [ho] at h2
    simpa using h2
  · have := h3 k hk
    simpa [hd] using this
/-- Operation i waits for j, along a way. -/
def reachB (ops : Array Oper) : Nat → Nat → Nat → Bool
  | 0, _, _ => false
  | f + 1, i, j => match ops[i]? with
    | none => false
    | some o => o.after.any fun e => Region.binds .any e && (e.on == j || reachB ops f e.on j)
theorem reach_listed {ops : Array Oper} {listed : Array Bool} (hc : ∀ j oj, ops[j]? = some oj → listed.getD j false = true → ∀ e ∈ oj.after, Region.binds .any e = true → listed.getD e.on false = true) :
    ∀ (f i j : Nat), reachB ops f i j = true → (∀ o, ops[i]? = some o → ∀ e ∈ o.after, Region.binds .any e = true → listed.getD e.on false = true) → listed.getD j false = true
  | 0, _, _, h, _ => by simp [reachB] at h
  | f + 1, i, j, h, hi => by
    unfold reachB at h
    cases ho : ops[i]? with
    | none => rw [ho] at h; cases h
    | some o =>
      rw [ho] at h
      simp only [Array.any_eq_true'] at h
      obtain ⟨e, he, h⟩ := h
      simp only [Bool.and_eq_true, Bool.or_eq_true, beq_iff_eq] at h
      have hl := hi o ho e he h.1
      rcases h.2 with h2 | h2
      · rw [← h2]; exact hl
      · exact reach_listed hc f e.on j h2 fun o' ho' e' he' hb' => hc e.on o' ho' hl e' he' hb'
/-- G: what any operation may do; H i: what the others do, while operation i has not been carried out; A i: behind it; D i j: i waits for j. J: what holds of the value in slot js behind operation jm. -/
class Mut where
  H : Nat → World → World → Prop
  A : Nat → World → World → Prop
  G : World → World → Prop
  D : Nat → Nat → Bool
  afut : ∀ {i : Nat} {a b : World}, Fut a b → A i a b
  hfut : ∀ {i : Nat} {a b : World}, Fut a b → H i a b
  htrans : ∀ {i : Nat} {a b c : World}, H i a b → H i b c → H i a c
  gfut : ∀ {a b : World}, Fut a b → G a b
  gtrans : ∀ {a b c : World}, G a b → G b c → G a c
  jm : Nat
  js : Tmp
  J : Value → World → Prop
  jkeep : ∀ {x : Value} {a b : World}, A jm a b → J x a → J x b
variable [Mut]
def G (w w' : World) : Prop := Mut.G w w'
theorem G.refl (w : World) : G w w := Mut.gfut (Fut.refl w)
theorem G.trans {a b c : World} (h : G a b) (k : G b c) : G a c := Mut.gtrans h k
def Eff (i : Nat) (w w' : World) : Prop := ((∀ j, j ≠ i → Mut.D i j = false → Mut.H j w w') ∧ ∀ j, j ≠ i → Mut.D j i = false → Mut.A j w w') ∧ G w w'
theorem Eff.of_fut {i : Nat} {w w' : World} (h : Fut w w') : Eff i w w' := ⟨⟨fun _ _ _ => Mut.hfut h, fun _ _ _ => Mut.afut h⟩, Mut.gfut h⟩
def EffJ (i : Nat) (x : Value) (w w' : World) : Prop := Eff i w w' ∧ (i = Mut.jm → Mut.J x w')
theorem Eff.refl (i : Nat) (w : World) : Eff i w w := Eff.of_fut (Fut.refl w)
/-- Of operation i no J is asked. -/
def NoJ (i : Nat) : Prop := i ≠ Mut.jm ∨ ∀ x w, Mut.J x w
theorem Eff.j {i : Nat} {x : Value} {w w' : World} (h : Eff i w w') (hj : NoJ i) : EffJ i x w w' := ⟨h, fun e => hj.elim (fun n => absurd e n) fun k => k x w'⟩

def Mono (i : Nat) : Sp → Prop
  | .det _ => True
  | .rel S => ∀ v w w', Mut.A i w w' → S v w → S v w'
theorem holds_mono {i : Nat} {s : Sp} (h : Mono i s) {v : Value} {w w' : World} (hf : Mut.A i w w') (hs : s.holds v w) : s.holds v w' := by
  cases s with
  | det c => exact hs
  | rel S => exact h v w w' hf hs

def givesUpon (i : Nat) (x : Value) (P : Program) (s : Sp) (w : World) : Result Next → Prop
  | .ok (.value v) w' => EffJ i x w w' ∧ s.holds v w'
  | .ok .skip w' => EffJ i x w w' ∧ s.holds undef w'
  | .ok (.enter f args) w' => Calls P f args w' (fun e w'' => ∃ v, e = .returned v ∧ EffJ i x w w'' ∧ s.holds v w'')
  | _ => False
def gives (i : Nat) (P : Program) (o : Oper) (a : Act) (s : Sp) (w : World) : Prop := givesUpon i (a.tmps.getD Mut.js undef) P s w ((execOp a.eval o).run P w)
def givesG (i : Nat) (P : Program) (ops : Array Oper) (o : Oper) (a : Act) (s : Sp) (w : World) : Prop :=
  if Region.wanted o (yielded ops a.tmps) = true then gives i P o a s w else EffJ i (a.tmps.getD Mut.js undef) w w ∧ s.holds undef w

def Obl (P : Program) (ops : Array Oper) (w0 : World) (a0 : Act) (K : Act → World → Prop) : List Oper → List (Option Tmp × Sp) → Prop
  | [], acc => ∀ w, G w0 w → lexFin w (fun a => Mut.J (a.tmps.getD Mut.js undef) w → K a w) acc a0
  | o :: r, acc => ∃ s : Sp, Mono acc.length s ∧ (∀ w, Mut.H acc.length w0 w → lexAct o w (fun a => givesG acc.length P ops o a s w) 0 acc a0) ∧ Obl P ops w0 a0 K r (acc ++ [(o.dst, s)])

structure GInv (ops : Array Oper) (n : Nat) (sp : Nat → Sp) (a0 : Act) (w0 : World) (vs : Nat → Value) (listed : Array Bool) (a : Act) (w : World) : Prop where
  size : a.tmps.size = a0.tmps.size
  defers : a.defers = a0.defers
  fut : G w0 w
  free : ∀ t, (∀ k, k < n → listed.getD k false = true → dstAt ops k ≠ some t) → a.tmps[t]? = a0.tmps[t]?
  held : ∀ k, k < n → listed.getD k false = true → (sp k).holds (vs k) w
  slot : ∀ k d, k < n → listed.getD k false = true → dstAt ops k = some d → a.tmps[d]? = some (vs k)
  lsize : listed.size = ops.size
  closed : ∀ j oj, ops[j]? = some oj → listed.getD j false = true → ∀ e ∈ oj.after, Region.binds .any e = true → listed.getD e.on false = true
  tail : ∀ t, n ≤ t → t < ops.size → listed.getD t true = false
  hist : ∀ i, listed.getD i false = false → Mut.H i w0 w
  jj : listed.getD Mut.jm false = true → Mut.J (a.tmps.getD Mut.js undef) w

/-- The obligations, one by one. -/
theorem Obl_split {P : Program} {ops : Array Oper} {w0 : World} {a0 : Act} {K : Act → World → Prop} : ∀ (l : List Oper) (acc : List (Option Tmp × Sp)), Obl P ops w0 a0 K l acc →
    ∃ full : List (Option Tmp × Sp), full.length = acc.length + l.length ∧ full.take acc.length = acc ∧
      (∀ j o, l[j]? = some o → ∃ s, full[acc.length + j]? = some (o.dst, s) ∧ Mono (acc.length + j) s ∧ ∀ w, Mut.H (acc.length + j) w0 w → lexAct o w (fun a => givesG (acc.length + j) P ops o a s w) 0 (full.take (acc.length + j)) a0) ∧
      (∀ w, G w0 w → lexFin w (fun a => Mut.J (a.tmps.getD Mut.js undef) w → K a w) full a0)
  | [], acc, h => ⟨acc, by simp, by simp, fun j o hj => by simp at hj, h⟩
  | o :: r, acc, h => by
    obtain ⟨s, hm, h1, h2⟩ := h
    obtain ⟨full, hl, ht, hall, hfin⟩ := Obl_split r _ h2
    have hlen : (acc ++ [(o.dst, s)]).length = acc.length + 1 := by simp
    rw [hlen] at hl ht hall
    have ht' : full.take acc.length = acc := by
      have := congrArg (List.take acc.length) ht
      simpa [List.take_take, Nat.min_eq_left (Nat.le_succ _)] using this
    refine ⟨full, by simp only [List.length_cons]; omega, ht', fun j o' hj => ?_, hfin⟩
    cases j with
    | zero =>
      simp only [List.getElem?_cons_zero, Option.some.injEq] at hj
      subst hj
      refine ⟨s, ?_, hm, fun w hw => by rw [Nat.add_zero] at hw ⊢; rw [ht']; exact h1 w hw⟩
      have := congrArg (fun x => x[acc.length]?) ht
      simpa [List.getElem?_take] using this
    | succ j =>
      have := hall j o' (by simpa using hj)
      rwa [show acc.length + 1 + j = acc.length + (j + 1) by omega] at this

section
variable {P : Program} {ops : Array Oper} {n : Nat} {sp : Nat → Sp} {a0 : Act} {w0 : World} {vs : Nat → Value} {listed : Array Bool} {a : Act} {w : World}

theorem GInv.step {full : List (Option Tmp × Sp)} {i : Nat} {Q : Exit → Act → World → Prop} {K : Act → World → Prop} (inv : GInv ops n sp a0 w0 vs listed a w) (hB : graphB ops n = true)
    (hbd : ∀ k d, dstAt ops k = some d → k < n → d < a0.tmps.size) (hjB : jB Mut.jm Mut.js ops n = true ∨ ∀ x w, Mut.J x w) (hDB : ∀ i j o, ops[i]? = some o → Mut.D i j = true → reachB ops ops.size i j = true)
    (hsp : ∀ k, k < n → full[k]? = some (dstAt ops k, sp k)) (_hfl : full.length = n) (hmono : ∀ k, k < n → Mono k (sp k))
    (hob : ∀ o, ops[i]? = some o → ∀ w, Mut.H i w0 w → lexAct o w (fun a => givesG i P ops o a (sp i) w) 0 (full.take i) a0)
    (hi : i ∈ Region.ready .any ops listed) (hin : i < n)
    (hK : ∀ v a' w', GInv ops n sp a0 w0 (fun k => if k = i then v else vs k) (listed.setIfInBounds i true) a' w' → K a' w') : wpOp P ops Q i K a w := by
  obtain ⟨hsel, hns, hg⟩ := graphB_spec hB
  obtain ⟨hun, o, ho, hall⟩ := mem_ready.1 hi
  obtain ⟨o', ho', hedge, hdist, hlook⟩ := hg i hin
  obtain rfl : o = o' := Option.some.inj (ho.symm.trans ho')
  have hunf : listed.getD i false = false := getD_both hun
  have hdep : ∀ k, dep o k = true → listed.getD k false = true := fun k hk => by
    obtain ⟨e, he, hb, rfl⟩ := dep_spec hk
    exact hall e he hb
  have hlex := lexAct_inst vs _ 0 a0 (hob o ho w (inv.hist i hunf)) fun j d S hj hd => by
    rw [Nat.zero_add] at hd ⊢
    rw [List.getElem?_take] at hj
    split at hj
    · rename_i hji
      have h1 := hsp j (by omega)
      rw [hj] at h1
      simp only [Option.some.injEq, Prod.mk.injEq] at h1
      have := inv.held j (by omega) (hdep j hd)
      rw [← h1.2] at this
      exact this
    · cases hj
  have hslot : ∀ t ∈ o.looksAt ops, a.tmps[t]? = (putAll vs 0 (full.take i) a0).tmps[t]? := fun t ht => by
    by_cases hex : ∃ k, k < i ∧ dstAt ops k = some t
    · obtain ⟨k, hki, hkd⟩ := hex
      have hkn : k < n := by omega
      have hkl := hdep k ((hlook t ht k hkn hkd).1 hki)
      have h1 : (full.take i)[k]? = some (some t, sp k) := by rw [List.getElem?_take, if_pos hki, hsp k hkn, hkd]
      rw [inv.slot k t hkn hkl hkd, putAll_at vs t _ 0 a0 k (sp k) (hbd k t hkd hkn) h1, Nat.zero_add]
      · have h2 := inv.held k hkn hkl
        cases hs : sp k with
        | det c => rw [hs] at h2; simp only [Sp.holds] at h2; rw [h2]; rfl
        | rel S => rfl
      · intro j d s' hj hd
        rw [List.getElem?_take] at hj
        split at hj
        · rename_i hji
          rw [hsp j (by omega)] at hj
          simp only [Option.some.injEq, Prod.mk.injEq] at hj
          have hjd : dstAt ops j = some t := hj.1.trans hd
          rcases Nat.lt_trichotomy j k with h' | h' | h'
          · obtain ⟨ok, hok, _, hd2, _⟩ := hg k hkn
            exact absurd hjd (hd2 t (by simpa [dstAt, hok] using hkd) j h')
          · exact h'
          · obtain ⟨oj, hoj, _, hd2, _⟩ := hg j (by omega)
            exact absurd hkd (hd2 t (by simpa [dstAt, hoj] using hjd) k h')
        · cases hj
    · rw [putAll_other]
      · refine inv.free t fun k hkn hkl hkd => ?_
        rcases Nat.lt_trichotomy k i with h' | h' | h'
        · exact hex ⟨k, h', hkd⟩
        · subst h'; rw [hunf] at hkl; cases hkl
        · obtain ⟨ok, hok, hdk⟩ := (hlook t ht k hkn hkd).2 h'
          obtain ⟨e, he, hb, hei⟩ := dep_spec hdk
          have := inv.closed k ok hok hkl e he hb
          rw [hei, hunf] at this
          cases this
      · intro d s hm hd
        obtain ⟨j, hj⟩ := List.getElem?_of_mem hm
        rw [List.getElem?_take] at hj
        split at hj
        · rename_i hji
          rw [hsp j (by omega)] at hj
          simp only [Option.some.injEq, Prod.mk.injEq] at hj
          exact hex ⟨j, hji, hj.1.trans hd⟩
        · cases hj
  have hexec : execOp a.eval o = execOp (putAll vs 0 (full.take i) a0).eval o := execOp_congr o (fun cs b => Region.noSelect_spec hsel i o cs b ho) fun x hx => by
    cases x with
    | tmp t =>
      have := hslot t (List.mem_append_left _ (List.mem_filterMap.2 ⟨.tmp t, by simpa using hx, rfl⟩))
      simp only [Act.eval, Array.getD_eq_getD_getElem?, this]
    | _ => rfl
  have hwant : Region.wanted o (yielded ops a.tmps) = Region.wanted o (yielded ops (putAll vs 0 (full.take i) a0).tmps) := by
    unfold Region.wanted
    cases hgd : o.guard with
    | none => rfl
    | some gw =>
      obtain ⟨g, want⟩ := gw
      have hy : yielded ops a.tmps g = yielded ops (putAll vs 0 (full.take i) a0).tmps g := by
        unfold yielded
        cases ht : (ops[g]?).bind (·.dst) with
        | none => rfl
        | some t =>
          have := hslot t (by simp [Oper.looksAt, hgd, ht])
          simp only [Option.bind_some, this]
      simp only [hy]
  have hdi : dstAt ops i = o.dst := by simp [dstAt, ho]
  have hnW : ∀ k, listed.getD k false = true → Mut.D k i = false := fun k hl => by
    cases hd : Mut.D k i with
    | false => rfl
    | true =>
      have hks : k < ops.size := by
        rw [← inv.lsize]
        rcases Nat.lt_or_ge k listed.size with h' | h'
        · exact h'
        · rw [Array.getD_eq_getD_getElem?, Array.getElem?_eq_none h'] at hl; cases hl
      have := reach_listed inv.closed _ k i (hDB k i _ (Array.getElem?_eq_getElem hks) hd) fun o ho e he hb => inv.closed k o ho hl e he hb
      rw [hunf] at this
      cases this
  have hnew : ∀ v w', EffJ i ((putAll vs 0 (full.take i) a0).tmps.getD Mut.js undef) w w' → (sp i).holds v w' → GInv ops n sp a0 w0 (fun k => if k = i then v else vs k) (listed.setIfInBounds i true) (a.put o.dst v) w' := fun v w' hf hv => by
    have hil : i < listed.size := by rw [inv.lsize]; omega
    have hset : ∀ k, k ≠ i → (listed.setIfInBounds i true).getD k false = listed.getD k false := fun k hk => getD_set_ne false (Ne.symm hk)
    refine ⟨by rw [put_size]; exact inv.size, by rw [put_defers']; exact inv.defers, inv.fut.trans hf.1.2, fun t ht => ?_, fun k hk hl => ?_, fun k d hk hl hd => ?_, by simp [inv.lsize], fun j oj hj hl e he hb => ?_, fun t ht ht' => by rw [getD_set_ne true (by omega)]; exact inv.tail t ht ht', fun j hj => ?_, fun hj => ?_⟩
    · have hit : o.dst ≠ some t := by rw [← hdi]; exact ht i hin (by simp [hil])
      rw [put_other _ _ _ _ hit]
      refine inv.free t fun k hk hl => ht k hk ?_
      by_cases hki : k = i
      · subst hki; simp [hil]
      · rw [hset k hki]; exact hl
    · by_cases hki : k = i
      · subst hki; simpa using hv
      · simp only [hki, if_false]
        rw [hset k hki] at hl
        exact holds_mono (hmono k hk) (hf.1.1.2 k hki (hnW k hl)) (inv.held k hk hl)
    · by_cases hki : k = i
      · subst hki
        have hod : o.dst = some d := by rw [← hdi]; exact hd
        rw [hod]
        show _ = some (if k = k then v else vs k)
        rw [if_pos rfl]
        exact put_same _ _ _ (by rw [inv.size]; exact hbd k d hd hk)
      · simp only [hki, if_false]
        rw [hset k hki] at hl
        rw [put_other]
        · exact inv.slot k d hk hl hd
        · intro hod
          have hid : dstAt ops i = some d := hdi.trans hod
          rcases Nat.lt_or_ge k i with h' | h'
          · exact hdist d hod k h' hd
          · obtain ⟨ok, hok, _, hd2, _⟩ := hg k hk
            exact hd2 d (by simpa [dstAt, hok] using hd) i (by omega) hid
    · by_cases hij : i = j
      · subst hij
        have : oj = o := Option.some.inj (hj.symm.trans ho)
        subst this
        exact getD_set_true (hall e he hb)
      · rw [getD_set_ne false hij] at hl
        exact getD_set_true (inv.closed j oj hj hl e he hb)
    · have hji : j ≠ i := fun e => by subst e; simp [hil] at hj
      rw [hset j hji] at hj
      exact Mut.htrans (inv.hist j hj) (hf.1.1.1 j hji (by
        cases hd : Mut.D i j with
        | false => rfl
        | true => have := reach_listed inv.closed _ i j (hDB i j o ho hd) (fun o' ho' e he hb => (by have : o' = o := Option.some.inj (ho'.symm.trans ho); subst this; exact hall e he hb)); rw [hj] at this; cases this))
    · rcases hjB with hjB | hjB
      · obtain ⟨j1, j2, j3⟩ := jB_spec hjB
        by_cases hji : i = Mut.jm
        · have hjs : o.dst ≠ some Mut.js := fun e => by have := j3 i hin (hdi.trans e); omega
          have hsl := hslot Mut.js (j2 o (by rw [← hji]; exact ho))
          have h7 := hf.2 hji
          rw [Array.getD_eq_getD_getElem?] at h7 ⊢
          rw [put_other _ _ _ _ hjs, hsl]
          exact h7
        · rw [hset _ (Ne.symm hji)] at hj
          have hjs : o.dst ≠ some Mut.js := fun e => by
            have hlt := j3 i hin (hdi.trans e)
            obtain ⟨oj, hoj, _, _, hl5⟩ := hg Mut.jm j1
            obtain ⟨e', he', hb', hei⟩ := dep_spec ((hl5 Mut.js (j2 oj hoj) i hin (hdi.trans e)).1 hlt)
            have := inv.closed Mut.jm oj hoj hj e' he' hb'
            rw [hei, hunf] at this
            cases this
          have h7 := inv.jj hj
          rw [Array.getD_eq_getD_getElem?] at h7 ⊢
          rw [put_other _ _ _ _ hjs]
          exact Mut.jkeep (hf.1.1.2 _ (Ne.symm hji) (hnW _ hj)) h7
      · exact hjB _ _
  unfold wpOp
  simp only [ho]
  unfold givesG at hlex
  rw [← hwant] at hlex
  split
  · rename_i hw
    rw [if_pos hw] at hlex
    refine .inl ?_
    unfold gives at hlex
    rw [← hexec] at hlex
    unfold Oper.wp
    generalize (execOp a.eval o).run P w = r at hlex ⊢
    cases r with
    | ok nx w' =>
      cases nx <;> simp only [givesUpon] at hlex <;> simp only [Oper.upon]
      case value u => exact hK u _ _ (hnew u w' hlex.1 hlex.2)
      case skip => exact hK undef _ _ (hnew undef w' hlex.1 hlex.2)
      case enter f args =>
        refine Calls.mono hlex fun e w'' he => ?_
        obtain ⟨v, rfl, hf, hv⟩ := he
        exact hK v _ _ (hnew v w'' hf hv)
    | halt x w' => simp only [givesUpon] at hlex
  · rename_i hw
    rw [if_neg hw] at hlex
    exact hK undef _ _ (hnew undef w hlex.1 hlex.2)
end

theorem wp_region_graph {P : Program} {id : Nat} {Q : Exit → Act → World → Prop} {a0 : Act} {w : World} {l : List Oper} (n : Nat) (hm : P.follows .mixedOrders = true)
    (hB : (graphB l.toArray n && tailB l.toArray n) = true) (hsz : ((List.range n).all fun k => match dstAt l.toArray k with | some d => decide (d < a0.tmps.size) | none => true) = true) (hjB : jB Mut.jm Mut.js l.toArray n = true ∨ ∀ x w, Mut.J x w) (hDB : ∀ i j o, l.toArray[i]? = some o → Mut.D i j = true → reachB l.toArray l.toArray.size i j = true)
    (h : Obl P l.toArray w.drew a0 (wpList P l.toArray Q (l.drop n)) (l.take n) []) : (Code.region id l.toArray true).wp P Q a0 w := by
  simp only [Bool.and_eq_true, tailB] at hB
  obtain ⟨hG, hS, hseq⟩ := hB
  obtain ⟨hsel, hns, hg⟩ := graphB_spec hG
  have hnl : n ≤ l.length := by simpa using hns
  have hbd : ∀ k d, dstAt l.toArray k = some d → k < n → d < a0.tmps.size := fun k d hd hk => by
    have := List.all_eq_true.1 hsz k (List.mem_range.2 hk)
    simpa [hd] using this
  obtain ⟨full, hfl, _, hob, hfin⟩ := Obl_split _ _ h
  simp only [List.length_nil, Nat.zero_add] at hfl hob
  have htl : (l.take n).length = n := by simp; omega
  rw [htl] at hfl
  -- the specifications
  obtain ⟨sp, hsp⟩ : ∃ sp : Nat → Sp, ∀ k, sp k = ((full[k]?).map (·.2)).getD (.det undef) := ⟨_, fun _ => rfl⟩
  have hfull : ∀ k, k < n → ∃ o, l[k]? = some o ∧ full[k]? = some (dstAt l.toArray k, sp k) ∧ Mono k (sp k) ∧
      ∀ w', Mut.H k w.drew w' → lexAct o w' (fun a => givesG k P l.toArray o a (sp k) w') 0 (full.take k) a0 := fun k hk => by
    have hlk : l[k]? = some (l[k]'(by omega)) := List.getElem?_eq_getElem (by omega)
    obtain ⟨s, hs, hmono, hlex⟩ := hob k _ (by rw [List.getElem?_take, if_pos hk]; exact hlk)
    have hspk : sp k = s := by rw [hsp, hs]; rfl
    refine ⟨_, hlk, ?_, by rw [hspk]; exact hmono, by rw [hspk]; exact hlex⟩
    rw [hs, hspk]
    simp [dstAt, hlk]
  refine wp_region_any hm ?_
  have main : ∀ (f : Nat) (listed : Array Bool) (a : Act) (w' : World) (vs : Nat → Value), GInv l.toArray n sp a0 w.drew vs listed a w' → unl listed n = f →
      wpAny P .any l.toArray Q (f + (l.length - n)) listed a w' := by
    intro f
    induction f with
    | zero =>
      intro listed a w' vs inv hf
      rw [Nat.zero_add]
      have hlisted : listed = headDone n l.length := by
        refine Array.ext_getElem? fun t => ?_
        by_cases ht : t < l.length
        · have hts : t < listed.size := by rw [inv.lsize]; simpa using ht
          have h2 : (headDone n l.length)[t]? = some (decide (t < n)) := by simp [headDone, ht]
          rw [h2, Array.getElem?_eq_getElem hts]
          by_cases htn : t < n
          · have := unl_zero n hf t htn
            simp [hts] at this
            simp [htn, this]
          · have := inv.tail t (by omega) (by simpa using ht)
            simp [hts] at this
            simp [htn, this]
        · rw [Array.getElem?_eq_none (by rw [inv.lsize]; simp; omega), Array.getElem?_eq_none (by simp [headDone]; omega)]
      have hlast := lexFin_inst (K := fun a => Mut.J (a.tmps.getD Mut.js undef) w' → wpList P l.toArray Q (l.drop n) a w') vs full 0 a0 (hfin w' inv.fut) fun j d S hj => by
        rw [Nat.zero_add]
        have hjn : j < n := by rw [← hfl]; exact (List.getElem?_eq_some_iff.1 hj).1
        obtain ⟨_, _, h1, _, _⟩ := hfull j hjn
        rw [hj] at h1
        simp only [Option.some.injEq, Prod.mk.injEq] at h1
        have := inv.held j hjn (unl_zero n hf j hjn)
        rw [← h1.2] at this
        exact this
      have hact : a = putAll vs 0 full a0 := by
        refine act_ext (fun t => ?_) ?_
        · by_cases hex : ∃ k, k < n ∧ dstAt l.toArray k = some t
          · obtain ⟨k, hk, hkd⟩ := hex
            obtain ⟨_, _, h1, _, _⟩ := hfull k hk
            rw [hkd] at h1
            rw [inv.slot k t hk (unl_zero n hf k hk) hkd, putAll_at vs t full 0 a0 k (sp k) (hbd k t hkd hk) h1, Nat.zero_add]
            · have h2 := inv.held k hk (unl_zero n hf k hk)
              cases hs : sp k with
              | det c => rw [hs] at h2; simp only [Sp.holds] at h2; rw [h2]; rfl
              | rel S => rfl
            · intro j d s' hj hd
              have hjn : j < n := by rw [← hfl]; exact (List.getElem?_eq_some_iff.1 hj).1
              obtain ⟨_, _, h3, _, _⟩ := hfull j hjn
              rw [hj] at h3
              simp only [Option.some.injEq, Prod.mk.injEq] at h3
              have hjd : dstAt l.toArray j = some t := h3.1.symm.trans hd
              rcases Nat.lt_trichotomy j k with h' | h' | h'
              · obtain ⟨ok, hok, _, hd2, _⟩ := hg k hk
                exact absurd hjd (hd2 t (by simpa [dstAt, hok] using hkd) j h')
              · exact h'
              · obtain ⟨oj, hoj, _, hd2, _⟩ := hg j hjn
                exact absurd hkd (hd2 t (by simpa [dstAt, hoj] using hjd) k h')
          · rw [inv.free t fun k hk _ hd => hex ⟨k, hk, hd⟩, putAll_other]
            intro d s hmem hd
            obtain ⟨j, hj⟩ := List.getElem?_of_mem hmem
            have hjn : j < n := by rw [← hfl]; exact (List.getElem?_eq_some_iff.1 hj).1
            obtain ⟨_, _, h3, _, _⟩ := hfull j hjn
            rw [hj] at h3
            simp only [Option.some.injEq, Prod.mk.injEq] at h3
            exact hex ⟨j, hjn, h3.1.symm.trans hd⟩
        · rw [inv.defers]
          have : ∀ (acc : List (Option Tmp × Sp)) (k : Nat) (b : Act), (putAll vs k acc b).defers = b.defers := by
            intro acc
            induction acc with
            | nil => intro k b; rfl
            | cons x r ih =>
              intro k b
              obtain ⟨d, s⟩ := x
              cases s <;> simp only [putAll] <;> rw [ih, put_defers']
          rw [this]
      rw [← hact] at hlast
      replace hlast := hlast (hjB.elim (fun h => inv.jj (unl_zero n hf _ (jB_spec h).1)) fun h => h _ _)
      have := wpAny_of_seq (md := .any) (P := P) (Q' := Q) (l.drop n) n listed a w' (fun j => by simp [List.getElem?_drop])
        (by rw [hlisted, List.length_drop]; simpa using hseq) hlast
      rwa [List.length_drop] at this
    | succ f ih =>
      intro listed a w' vs inv hf
      obtain ⟨i0, hi0, hi1, hi2⟩ := unl_some n (by rw [hf]; omega)
      have hils : ∀ i, i < n → i < listed.size := fun i hi => by rw [inv.lsize]; simp; omega
      have hready : i0 ∈ Region.ready .any l.toArray listed := by
        obtain ⟨o, ho, hedge, _⟩ := hg i0 hi0
        exact mem_ready.2 ⟨getD_in (hils i0 hi0) hi1, o, ho, fun e he hb => hi2 _ (hedge e he hb)⟩
      rw [show f + 1 + (l.length - n) = (f + (l.length - n)) + 1 by omega]
      refine ⟨fun h0 => (by rw [h0] at hready; cases hready), fun i hi => ?_⟩
      have hin : i < n := by
        rcases Nat.lt_or_ge i n with h' | h'
        · exact h'
        · exfalso
          have hisz : i < l.toArray.size := by
            obtain ⟨_, o, ho, _⟩ := mem_ready.1 hi
            exact (Array.getElem?_eq_some_iff.1 ho).1
          simp only [sinkB, Bool.or_eq_true, decide_eq_true_eq, Bool.and_eq_true] at hS
          rcases hS with hS | ⟨hs, hc⟩
          · omega
          · exact tail_waits hs hc (by omega) ⟨inv.lsize, inv.closed, inv.tail⟩ _ i0 rfl hi0 (getD_in (hils i0 hi0) hi1) i h' hi
      refine inv.step (full := full) (Q := Q) hG hbd hjB hDB (fun k hk => (by obtain ⟨_, _, h1, _, _⟩ := hfull k hk; exact h1)) hfl (fun k hk => (by obtain ⟨_, _, _, h1, _⟩ := hfull k hk; exact h1))
        (fun o ho => (by
          obtain ⟨o', ho', _, _, h1⟩ := hfull i hin
          have : o = o' := Option.some.inj ((by simpa using ho.symm : some o = l[i]?).trans ho')
          subst this
          exact h1)) hi hin fun v a' w'' inv' => ih _ a' w'' _ inv' ?_
      have hun := getD_both (mem_ready.1 hi).1
      have := unl_set hun (hils i hin) n hin
      omega
  have := main n (Array.replicate l.toArray.size false) a0 w.drew (fun _ => undef)
    ⟨rfl, rfl, G.refl _, fun _ _ => rfl, fun k _ hl => (by rw [getD_replicate_false] at hl; cases hl), fun k _ _ hl => (by rw [getD_replicate_false] at hl; cases hl), by simp,
      fun j oj _ hl => (by rw [getD_replicate_false] at hl; cases hl), fun t _ ht => getD_in (by simpa using ht) (getD_replicate_false _ _), fun i _ => Mut.hfut (Fut.refl _), fun hl => (by rw [getD_replicate_false] at hl; cases hl)⟩ (unl_none _ _)
  rwa [show n + (l.length - n) = l.toArray.size by simp; omega] at this

def Run (P : Program) (ops : Array Oper) (w0 : World) (K : Act → World → Prop) : Nat → List Oper → List Sp → Act → List (Nat × (World → Prop)) → Prop
  | _, [], _, a, known => ∀ w, G w0 w → AllFacts known w → Mut.J (a.tmps.getD Mut.js undef) w → K a w
  | i, o :: r, .det c :: sps, a, known => (∀ w, Mut.H i w0 w → Facts known o w → givesG i P ops o a (.det c) w) ∧ Run P ops w0 K (i + 1) r sps (a.put o.dst c) known
  | i, o :: r, .rel S :: sps, a, known => (∀ v w w', Mut.A i w w' → S v w → S v w') ∧ (∀ w, Mut.H i w0 w → Facts known o w → givesG i P ops o a (.rel S) w) ∧
      ∀ v, Run P ops w0 K (i + 1) r sps (a.put o.dst v) (known ++ [(i, S v)])
  | _, _ :: _, [], _, _ => False

theorem Obl_of_run {P : Program} {ops : Array Oper} {w0 : World} {a0 : Act} {K : Act → World → Prop} : ∀ (l : List Oper) (sps : List Sp) (acc : List (Option Tmp × Sp)),
    (∀ v : Nat → Value, Run P ops w0 K acc.length l sps (putAll v 0 acc a0) (knownOf v 0 acc)) → Obl P ops w0 a0 K l acc
  | [], sps, acc, h => fun w hw => lexFin_intro acc 0 a0 fun v hv => by
    have := h v
    simp only [Run] at this
    exact this w hw (allFacts_of acc 0 hv)
  | o :: r, [], acc, h => by have := h (fun _ => undef); simp only [Run] at this
  | o :: r, .det c :: sps, acc, h => by
    refine ⟨.det c, trivial, fun w hw => lexAct_intro acc 0 a0 fun v hv => ?_, Obl_of_run r sps _ fun v => ?_⟩
    · have := h v
      simp only [Run] at this
      exact this.1 w hw (facts_of acc 0 hv)
    · have := (h v)
      simp only [Run] at this
      have h2 := this.2
      rw [putAll_append, knownOf_append, List.length_append]
      simpa [putAll, knownOf] using h2
  | o :: r, .rel S :: sps, acc, h => by
    refine ⟨.rel S, ?_, fun w hw => lexAct_intro acc 0 a0 fun v hv => ?_, Obl_of_run r sps _ fun v => ?_⟩
    · have := h (fun _ => undef)
      simp only [Run] at this
      exact this.1
    · have := h v
      simp only [Run] at this
      exact this.2.1 w hw (facts_of acc 0 hv)
    · have := h v
      simp only [Run] at this
      have h2 := this.2.2 (v acc.length)
      rw [putAll_append, knownOf_append, List.length_append]
      simpa [putAll, knownOf] using h2

/-- THE RULE. 'n': how many operations the head has; 'shape': of each of these whether its value is fixed ('.d') or what is known of it ('.r S'). -/
theorem wp_graph {P : Program} {id : Nat} {Q : Exit → Act → World → Prop} {a0 : Act} {w : World} {l : List Oper} (n : Nat) (shape : List Sh) (hm : P.follows .mixedOrders = true)
    (hB : (graphB l.toArray n && tailB l.toArray n) = true) (hsz : ((List.range n).all fun k => match dstAt l.toArray k with | some d => decide (d < a0.tmps.size) | none => true) = true) (hjB : jB Mut.jm Mut.js l.toArray n = true ∨ ∀ x w, Mut.J x w) (hDB : ∀ i j o, l.toArray[i]? = some o → Mut.D i j = true → reachB l.toArray l.toArray.size i j = true)
    (h : Exs (fun sps => Run P l.toArray w.drew (wpList P l.toArray Q (l.drop n)) 0 (l.take n) sps a0 []) shape) : (Code.region id l.toArray true).wp P Q a0 w := by
  obtain ⟨sps, hs⟩ := Exs_some shape h
  exact wp_region_graph n hm hB hsz hjB hDB (Obl_of_run _ sps [] fun _ => hs)

section
variable {P : Program} {ops : Array Oper} {w0 : World} {K : Act → World → Prop} {i : Nat} {o : Oper} {r : List Oper} {sps : List Sp} {a : Act} {known : List (Nat × (World → Prop))}
/-- An operation that makes nothing. -/
theorem Run.val {c : Value} (hj : NoJ i) (hg : o.guard = none) (h : ∀ w, Mut.H i w0 w → Facts known o w → (execOp a.eval o).run P w = .ok (.value c) w) (k : Run P ops w0 K (i + 1) r sps (a.put o.dst c) known) :
    Run P ops w0 K i (o :: r) (.det c :: sps) a known := by
  refine ⟨fun w hw hf => ?_, k⟩
  unfold givesG
  rw [if_pos (wanted_none hg _)]
  unfold gives
  rw [h w hw hf]
  exact ⟨(Eff.refl i w).j hj, rfl⟩
/-- The same behind a guard that lets it go on. -/
theorem Run.valG {c : Value} (hj : NoJ i) (hg : Region.wanted o (yielded ops a.tmps) = true) (h : ∀ w, Mut.H i w0 w → Facts known o w → (execOp a.eval o).run P w = .ok (.value c) w) (k : Run P ops w0 K (i + 1) r sps (a.put o.dst c) known) :
    Run P ops w0 K i (o :: r) (.det c :: sps) a known := by
  refine ⟨fun w hw hf => ?_, k⟩
  unfold givesG
  rw [if_pos hg]
  unfold gives
  rw [h w hw hf]
  exact ⟨(Eff.refl i w).j hj, rfl⟩
theorem Run.skip (hj : NoJ i) (hg : Region.wanted o (yielded ops a.tmps) = false) (k : Run P ops w0 K (i + 1) r sps (a.put o.dst undef) known) :
    Run P ops w0 K i (o :: r) (.det undef :: sps) a known := by
  refine ⟨fun w hw hf => ?_, k⟩
  unfold givesG
  rw [if_neg (by rw [hg]; exact Bool.false_ne_true)]
  exact ⟨(Eff.refl i w).j hj, rfl⟩
/-- A call whose answer is known. -/
theorem Run.call {c : Value} {f : FuncId} {args : Array Value} (hj : NoJ i) (hg : Region.wanted o (yielded ops a.tmps) = true) (h : ∀ w, Mut.H i w0 w → (execOp a.eval o).run P w = .ok (.enter f args) w)
    (hc : ∀ w, Mut.H i w0 w → Facts known o w → Calls P f args w fun e w' => e = .returned c ∧ Fut w w') (k : Run P ops w0 K (i + 1) r sps (a.put o.dst c) known) :
    Run P ops w0 K i (o :: r) (.det c :: sps) a known := by
  refine ⟨fun w hw hf => ?_, k⟩
  unfold givesG
  rw [if_pos hg]
  unfold gives
  rw [h w hw]
  exact (hc w hw hf).mono fun e w' ⟨he, hf'⟩ => ⟨c, he, (Eff.of_fut hf').j hj, rfl⟩
/-- A call that turns memory, whose answer is known. -/
theorem Run.mut {c : Value} {f : FuncId} {args : Array Value} (hj : NoJ i) (hg : Region.wanted o (yielded ops a.tmps) = true) (h : ∀ w, Mut.H i w0 w → (execOp a.eval o).run P w = .ok (.enter f args) w)
    (hc : ∀ w, Mut.H i w0 w → Facts known o w → Calls P f args w fun e w' => e = .returned c ∧ Eff i w w') (k : Run P ops w0 K (i + 1) r sps (a.put o.dst c) known) :
    Run P ops w0 K i (o :: r) (.det c :: sps) a known := by
  refine ⟨fun w hw hf => ?_, k⟩
  unfold givesG
  rw [if_pos hg]
  unfold gives
  rw [h w hw]
  exact (hc w hw hf).mono fun e w' ⟨he, hf'⟩ => ⟨c, he, hf'.j hj, rfl⟩
/-- An operation that writes. -/
theorem Run.mutV (hg : Region.wanted o (yielded ops a.tmps) = true)
    (h : ∀ w, Mut.H i w0 w → Facts known o w → ∃ w', (execOp a.eval o).run P w = .ok .skip w' ∧ Eff i w w' ∧ (i = Mut.jm → Mut.J (a.tmps.getD Mut.js undef) w')) (k : Run P ops w0 K (i + 1) r sps (a.put o.dst undef) known) :
    Run P ops w0 K i (o :: r) (.det undef :: sps) a known := by
  refine ⟨fun w hw hf => ?_, k⟩
  unfold givesG
  rw [if_pos hg]
  unfold gives
  obtain ⟨w', he, h1, h2⟩ := h w hw hf
  rw [he]
  exact ⟨⟨h1, h2⟩, rfl⟩
/-- A call of whose answer something is known. -/
theorem Run.callR {S : Value → World → Prop} {f : FuncId} {args : Array Value} (hj : NoJ i) (hg : Region.wanted o (yielded ops a.tmps) = true) (hm : ∀ v w w', Mut.A i w w' → S v w → S v w') (h : ∀ w, Mut.H i w0 w → (execOp a.eval o).run P w = .ok (.enter f args) w)
    (hc : ∀ w, Mut.H i w0 w → Facts known o w → Calls P f args w fun e w' => ∃ v, e = .returned v ∧ Fut w w' ∧ S v w') (k : ∀ v, Run P ops w0 K (i + 1) r sps (a.put o.dst v) (known ++ [(i, S v)])) :
    Run P ops w0 K i (o :: r) (.rel S :: sps) a known := by
  refine ⟨hm, fun w hw hf => ?_, k⟩
  unfold givesG
  rw [if_pos hg]
  unfold gives
  rw [h w hw]
  exact (hc w hw hf).mono fun e w' ⟨v, he, hf', hs⟩ => ⟨v, he, (Eff.of_fut hf').j hj, hs⟩
/-- A call that turns memory, of whose answer something is known. -/
theorem Run.mutR {S : Value → World → Prop} {f : FuncId} {args : Array Value} (hj : NoJ i) (hg : Region.wanted o (yielded ops a.tmps) = true) (hm : ∀ v w w', Mut.A i w w' → S v w → S v w') (h : ∀ w, Mut.H i w0 w → (execOp a.eval o).run P w = .ok (.enter f args) w)
    (hc : ∀ w, Mut.H i w0 w → Facts known o w → Calls P f args w fun e w' => ∃ v, e = .returned v ∧ Eff i w w' ∧ S v w') (k : ∀ v, Run P ops w0 K (i + 1) r sps (a.put o.dst v) (known ++ [(i, S v)])) :
    Run P ops w0 K i (o :: r) (.rel S :: sps) a known := by
  refine ⟨hm, fun w hw hf => ?_, k⟩
  unfold givesG
  rw [if_pos hg]
  unfold gives
  rw [h w hw]
  exact (hc w hw hf).mono fun e w' ⟨v, he, hf', hs⟩ => ⟨v, he, hf'.j hj, hs⟩
/-- An operation that makes memory: of its value something is known. -/
theorem Run.valR {S : Value → World → Prop} (hj : NoJ i) (hg : Region.wanted o (yielded ops a.tmps) = true) (hm : ∀ v w w', Mut.A i w w' → S v w → S v w')
    (h : ∀ w, Mut.H i w0 w → Facts known o w → ∃ v w', (execOp a.eval o).run P w = .ok (.value v) w' ∧ Fut w w' ∧ S v w') (k : ∀ v, Run P ops w0 K (i + 1) r sps (a.put o.dst v) (known ++ [(i, S v)])) :
    Run P ops w0 K i (o :: r) (.rel S :: sps) a known := by
  refine ⟨hm, fun w hw hf => ?_, k⟩
  unfold givesG
  rw [if_pos hg]
  unfold gives
  obtain ⟨v, w', he, h1, h2⟩ := h w hw hf
  rw [he]
  exact ⟨(Eff.of_fut h1).j hj, h2⟩
theorem Run.done (h : ∀ w, G w0 w → AllFacts known w → Mut.J (a.tmps.getD Mut.js undef) w → K a w) : Run P ops w0 K i [] sps a known := h
end

section
variable {P : Program} {ops : Array Oper} {w0 : World} {K : Act → World → Prop} {i : Nat} {o : Oper} {r : List Oper} {sps : List Sp} {a : Act} {known : List (Nat × (World → Prop))}
/-- The guard lets it go on by what is known. -/
theorem Run.valF {c : Value} (hj : NoJ i) (hg : ∀ w, Mut.H i w0 w → Facts known o w → Region.wanted o (yielded ops a.tmps) = true) (h : ∀ w, Mut.H i w0 w → Facts known o w → (execOp a.eval o).run P w = .ok (.value c) w) (k : Run P ops w0 K (i + 1) r sps (a.put o.dst c) known) :
    Run P ops w0 K i (o :: r) (.det c :: sps) a known := by
  refine ⟨fun w hw hf => ?_, k⟩
  unfold givesG
  rw [if_pos (hg w hw hf)]
  unfold gives
  rw [h w hw hf]
  exact ⟨(Eff.refl i w).j hj, rfl⟩
theorem Run.callRF {S : Value → World → Prop} {f : FuncId} {args : Array Value} (hj : NoJ i) (hm : ∀ v w w', Mut.A i w w' → S v w → S v w') (h : ∀ w, Mut.H i w0 w → (execOp a.eval o).run P w = .ok (.enter f args) w) (hg : ∀ w, Mut.H i w0 w → Facts known o w → Region.wanted o (yielded ops a.tmps) = true)
    (hc : ∀ w, Mut.H i w0 w → Facts known o w → Calls P f args w fun e w' => ∃ v, e = .returned v ∧ Fut w w' ∧ S v w') (k : ∀ v, Run P ops w0 K (i + 1) r sps (a.put o.dst v) (known ++ [(i, S v)])) :
    Run P ops w0 K i (o :: r) (.rel S :: sps) a known := by
  refine ⟨hm, fun w hw hf => ?_, k⟩
  unfold givesG
  rw [if_pos (hg w hw hf)]
  unfold gives
  rw [h w hw]
  exact (hc w hw hf).mono fun e w' ⟨v, he, hf', hs⟩ => ⟨v, he, (Eff.of_fut hf').j hj, hs⟩
end
end Go.Proofs.Ytcekphjcmippoaa.OnD
namespace Go.Proofs.Ytcekphjcmippoaa.OnD
/-- One operation turns memory; each other one comes before it or behind it. -/
abbrev Mut.late (m : Nat) (R : World → World → Prop) (hf : ∀ {a b : World}, Fut a b → R a b) (ht : ∀ {a b c : World}, R a b → R b c → R a c) : Mut where
  H i := if i ≤ m then Fut else R
  A i := if m ≤ i then Fut else R
  G := R
  D i j := (j == m && decide (m < i)) || (i == m && decide (j < m))
  hfut := fun {i} {a b} h => by
    show (if i ≤ m then Fut else R) a b
    split
    · exact h
    · exact hf h
  afut := fun {i} {a b} h => by
    show (if m ≤ i then Fut else R) a b
    split
    · exact h
    · exact hf h
  htrans := fun {i} {a b c} h k => by
    show (if i ≤ m then Fut else R) a c
    change (if i ≤ m then Fut else R) a b at h
    change (if i ≤ m then Fut else R) b c at k
    split at h
    · rename_i e; rw [if_pos e] at k ⊢; exact Fut.trans h k
    · rename_i e; rw [if_neg e] at k ⊢; exact ht h k
  gfut := hf
  gtrans := ht
  jm := 0
  js := 0
  J _ _ := True
  jkeep _ _ := trivial
section
variable {m : Nat} {R : World → World → Prop} {hf : ∀ {a b : World}, Fut a b → R a b} {ht : ∀ {a b c : World}, R a b → R b c → R a c} {w w' : World}
theorem Eff.late (h : R w w') : @Eff (Mut.late m R hf ht) m w w' :=
  ⟨⟨fun j hj hd => (by
      show (if j ≤ m then Fut else R) w w'
      have hd' : ((j == m && decide (m < m)) || (m == m && decide (j < m))) = false := hd
      simp at hd'
      rw [if_neg (by omega)]
      exact h), fun j hj hd => (by
      show (if m ≤ j then Fut else R) w w'
      have hd' : ((m == m && decide (m < j)) || (j == m && decide (m < m))) = false := hd
      simp at hd'
      rw [if_neg (by omega)]
      exact h)⟩, h⟩
theorem late_dep {ops : Array Oper} (h : ((List.range ops.size).all fun i => (List.range (ops.size + m)).all fun j => !((j == m && decide (m < i)) || (i == m && decide (j < m))) || reachB ops ops.size i j) = true) :
    ∀ i j o, ops[i]? = some o → @Mut.D (Mut.late m R hf ht) i j = true → reachB ops ops.size i j = true := fun i j o ho hd => by
  have hd' : ((j == m && decide (m < i)) || (i == m && decide (j < m))) = true := hd
  have hi : i < ops.size := (Array.getElem?_eq_some_iff.1 ho).1
  have hj : j < ops.size + m := by
    simp only [Bool.or_eq_true, Bool.and_eq_true, beq_iff_eq, decide_eq_true_eq] at hd'
    omega
  have h1 := List.all_eq_true.1 (List.all_eq_true.1 h i (List.mem_range.2 hi)) j (List.mem_range.2 hj)
  rw [hd'] at h1
  simpa using h1
end
end Go.Proofs.Ytcekphjcmippoaa.OnD
/- RelationPlays: the walk. Printed by plays.py. -/
namespace Go.Proofs.Ytcekphjcmippoaa
open Go.RowKit Go.WideMaps
set_option linter.unusedSimpArgs false
set_option linter.unusedVariables false

theorem op_at {w : World} {A : Option Addr} {n cap M : Nat} {xs : List OpL} (h : SlRep 29 M ROp w (.slice A n cap) xs) {k : Nat} (hk : k < xs.length) : ∃ b off, A = some ⟨b, off, none⟩ ∧ OpAt w b (off + k * 29) xs[k] ∧ xs[k].ok := by
  obtain ⟨A1, cap1, hv, _, _, h3⟩ := h
  obtain ⟨b, off, cs, hA, hl, hc, hr, hok⟩ := h3 k _ (List.getElem?_eq_getElem hk)
  injection hv with hv _ _
  subst hr
  exact ⟨b, off, hv.trans hA, fun j c hj => by rw [Nat.add_assoc]; exact hc j c hj, hok⟩
theorem ROp.stays : Stays ROp := fun _ _ _ _ _ h => h
theorem OpAt.lt {w : World} {b off : Nat} {o : OpL} (h : OpAt w b off o) : b < w.heap.size := lt_of_cell (h 0 _ rfl)
/-- Two boths in one block. -/
def TwoAt (B : Nat) (W : World) (bb : Nat) (S0 S1 : Option RSt) : Prop := ∃ O0 p0 q0 kv0 f0 t0 FT0 FD0 O1 p1 q1 kv1 f1 t1 FT1 FD1, BothAt B W bb 0 S0 O0 p0 q0 kv0 f0 t0 FT0 FD0 ∧ BothAt B W bb 5 S1 O1 p1 q1 kv1 f1 t1 FT1 FD1 ∧ (∀ k, O0 k → ¬ O1 k) ∧ ∀ k, O0 k ∨ O1 k → B ≤ k
theorem BothAt.room {B : Nat} {w : World} {bb off : Nat} {S : Option RSt} {O FT FD : Nat → Prop} {p q : Option Addr} {kv : Value} {f t : Int} (h : BothAt B w bb off S O p q kv f t FT FD) : ∃ arr ty, w.heap[bb]? = some (.cells arr ty (0, 0)) ∧ off + 5 ≤ arr.size := by
  obtain ⟨arr, ty, h0, h1, h2, h3, h4, h5⟩ := h.blk
  have := (Array.getElem?_eq_some_iff.1 h5).1
  exact ⟨arr, ty, h0, by omega⟩
theorem storeM_size {arr arr' : Array Value} {off : Nat} {p q : Option Addr} (ha : ∀ j, arr'[j]? = if off ≤ j ∧ j < off + 5 then (bothCells p q)[j - off]? else arr[j]?) (hs : off + 5 ≤ arr.size) : arr'.size = arr.size := by
  have h1 := ha arr.size
  rw [if_neg (by omega), Array.getElem?_eq_none (Nat.le_refl _)] at h1
  have h2 := Array.getElem?_eq_none_iff.1 h1
  have h3 := ha (arr.size - 1)
  have h4 : (arr'[arr.size - 1]?).isSome = true := by
    rw [h3]
    split
    · rename_i h
      have h5 : arr.size - 1 - off < (bothCells p q).size := by show _ < 5; omega
      rw [Array.getElem?_eq_getElem h5]; rfl
    · rw [Array.getElem?_eq_getElem (by omega)]; rfl
  have h5 : ¬ arr'.size ≤ arr.size - 1 := fun h => by rw [Array.getElem?_eq_none h] at h4; cases h4
  omega
theorem same_put {w : World} {b off : Nat} {t : TypeId} {arr arr' : Array Value} {p q : Option Addr} (hL : w.heap[b]? = some (.cells arr t (0, 0))) (ha : ∀ j, arr'[j]? = if off ≤ j ∧ j < off + 5 then (bothCells p q)[j - off]? else arr[j]?) : SameBut w (w.putObj b (.cells arr' t (0, 0))) b off (off + 5) := fun arr0 ty h0 => by
  rw [hL] at h0
  injection h0 with h0
  injection h0 with h1 h2
  subst h1 h2
  exact ⟨arr', World.putObj_heap_same (Array.getElem?_eq_some_iff.1 hL).1, fun j hj => by rw [ha, if_neg (by omega)]⟩
def NewAt (B : Nat) (w2 : World) (bb : Nat) (a b : Int) (k : Nat) (W : World) : Prop :=
  (∃ arr, W.heap[bb]? = some (.cells arr 61 (0, 0)) ∧ arr.size = 10) ∧ Only (fun j => j = bb) w2 W ∧ (k = 1 → ∃ O p q FT FD, BothAt B W bb 0 (newS a) O p q .nilFunc 0 0 FT FD ∧ ∀ j, O j → B ≤ j) ∧ (k = 2 → TwoAt B W bb (newS a) (newS b))
def PlayAt (bb : Nat) (w : World) (k : Nat) (W : World) : Prop := Fut w W ∧ ∃ S0 S1, TwoAt w.heap.size W bb S0 S1 ∧ (rowsS S0).length ≤ k ∧ (rowsS S1).length ≤ k ∧ goneS S0 ≤ k ∧ goneS S1 ≤ k
def LenOf (w : World) (q : Option Addr) (n : Nat) : Prop := (q = none ∧ n = 0) ∨ ∃ b A cap x y z ty, q = some ⟨b, 0, none⟩ ∧ w.heap[b]? = some (.cells #[x, y, .slice A n cap, z] ty (0, 0))
theorem LenOf.fut {w w' : World} {q : Option Addr} {n : Nat} (h : LenOf w q n) (hf : Fut w w') : LenOf w' q n := by
  rcases h with h | ⟨b, A, cap, x, y, z, ty, h1, h2⟩
  · exact .inl h
  · exact .inr ⟨b, A, cap, x, y, z, ty, h1, hf.block h2⟩
theorem lenOf_one {w : World} {q : Option Addr} {n m : Nat} (h : LenOf w q n) (k : LenOf w q m) : n = m := by
  rcases h with ⟨h1, h2⟩ | ⟨b, A, cap, x, y, z, ty, h1, h2⟩
  · rcases k with ⟨k1, k2⟩ | ⟨b, A, cap, x, y, z, ty, k1, k2⟩
    · omega
    · rw [h1] at k1; cases k1
  · rcases k with ⟨k1, k2⟩ | ⟨b', A', cap', x', y', z', ty', k1, k2⟩
    · rw [h1] at k1; cases k1
    · rw [h1] at k1
      injection k1 with k1
      injection k1 with k1
      subst k1
      rw [h2] at k2
      injection k2 with k2
      injection k2 with k2
      injection k2 with k2
      injection k2 with _ k2
      injection k2 with _ k2
      injection k2 with k2
      injection k2
theorem lenOf {B : Nat} {w : World} {q : Option Addr} {S : Option RSt} {F : Nat → Prop} (h : DAt B w q S F) : LenOf w q (rowsS S).length := by
  have := h.holds
  cases S with
  | none => exact .inl ⟨this, rfl⟩
  | some s =>
    obtain ⟨b, v, h1, h2, _⟩ := this
    obtain ⟨A, cap, rfl, _⟩ := h2.list.rep.form
    exact .inr ⟨b, A, cap, _, _, _, _, h1, h2.blk⟩
/-- One of the two has done a call, the other lies there as it did. -/
def Full (B : Nat) (W : World) (bb offk offo : Nat) (Sk : Option RSt) (Ok : Nat → Prop) (pk qk : Option Addr) (So : Option RSt) (Oo : Nat → Prop) (po qo : Option Addr) (w' : World) : Prop :=
  (∃ S' O' kv f t FT FD, BothAt B w' bb offk S' O' pk qk kv f t FT FD ∧ (rowsS S').length ≤ (rowsS Sk).length + 1 ∧ goneS S' ≤ goneS Sk + 1 ∧ ∀ j, O' j → Ok j ∨ W.heap.size ≤ j) ∧
  ∃ kv f t FT FD, BothAt B w' bb offo So Oo po qo kv f t FT FD
section
variable {B : Nat} {W : World} {bb offk offo : Nat} {Sk So : Option RSt} {Ok Oo : Nat → Prop} {pk qk po qo : Option Addr} {w w' : World}
theorem Full.fut (h : Full B W bb offk offo Sk Ok pk qk So Oo po qo w) (hf : Fut w w') : Full B W bb offk offo Sk Ok pk qk So Oo po qo w' := by
  obtain ⟨⟨S', O', kv, f, t, FT, FD, h1, h2⟩, kv2, f2, t2, FT2, FD2, h3⟩ := h
  exact ⟨⟨S', O', kv, f, t, FT, FD, h1.fut hf, h2⟩, kv2, f2, t2, FT2, FD2, h3.fut hf⟩
theorem Full.k (h : Full B W bb offk offo Sk Ok pk qk So Oo po qo w) : w.cell? ⟨bb, offk, none⟩ = some (.pointer pk) ∧ w.cell? ⟨bb, offk + 1, none⟩ = some (.pointer qk) ∧ ∃ S FT FD, TAt B w pk S FT ∧ DAt B w qk S FD := by
  obtain ⟨⟨S', O', kv, f, t, FT, FD, h1, h2⟩, kv2, f2, t2, FT2, FD2, h3⟩ := h
  exact ⟨h1.cell.1, h1.cell.2.1, S', FT, FD, h1.T, h1.D⟩
theorem Full.o (h : Full B W bb offk offo Sk Ok pk qk So Oo po qo w) : w.cell? ⟨bb, offo, none⟩ = some (.pointer po) ∧ w.cell? ⟨bb, offo + 1, none⟩ = some (.pointer qo) ∧ ∃ S FT FD, TAt B w po S FT ∧ DAt B w qo S FD := by
  obtain ⟨⟨S', O', kv, f, t, FT, FD, h1, h2⟩, kv2, f2, t2, FT2, FD2, h3⟩ := h
  exact ⟨h3.cell.1, h3.cell.2.1, So, FT2, FD2, h3.T, h3.D⟩
theorem full_of {e : Ending} {kvo : Value} {fo to : Int} {FTo FDo : Nat → Prop} (h : Did B w bb offk Sk Ok pk qk e w') (ho : BothAt B w bb offo So Oo po qo kvo fo to FTo FDo) (hd : ∀ j, Ok j → ¬ Oo j) (hW : W.heap.size ≤ w.heap.size) (hof : offo + 5 ≤ offk + 2 ∨ offk + 5 ≤ offo) :
    e = .returned (.bool true) ∧ Full B W bb offk offo Sk Ok pk qk So Oo po qo w' ∧ Only (fun j => Ok j ∨ j = bb) w w' := by
  obtain ⟨h0, S', O', kv, f, t, FT, FD, h1, h2, h3, h4, h5, h6, h7⟩ := h
  exact ⟨h0, ⟨⟨S', O', kv, f, t, FT, FD, h1, h2, h3, fun j hj => (h5 j hj).imp id fun h => Nat.le_trans hW h⟩, kvo, fo, to, FTo, FDo, ho.beside (lo := offk + 2) (hi := offk + 5) h6 (fun j hj hk => hd j hk hj) h7 hof⟩, h6⟩
end
set_option maxHeartbeats 6400000 in
set_option maxRecDepth 100000 in
theorem plays_walk (v : Value) (l : List OpL) (a b : Int) (w : World) (h : SlRep 29 1040000000000 ROp w v l) :
    Calls Try.prog 6 #[.int .i64 a, .int .i64 b, v] w fun e w' => e = .returned (.bool true) ∧ Fut w w' := by
  have H := Lib.hid h
  have hll := h.len
  obtain ⟨A, cap, rfl, hcl, hcm⟩ := h.form
  clear h
  go_enter Try.func6, Try.ntmps6
  go_wp2_with fail
  have F1 := Fut.alloc w (.cells #[Value.int .i64 a, Value.int .i64 b] 57)
  have bA := heap_alloc_new w (.cells #[Value.int .i64 a, Value.int .i64 b] 57)
  have F2 := Fut.alloc (w.alloc (.cells #[Value.int .i64 a, Value.int .i64 b] 57)) (.cells #[Value.pointer none, Value.pointer none, Value.nilFunc, Value.int .i64 0, Value.int .i64 0, Value.pointer none, Value.pointer none, Value.nilFunc, Value.int .i64 0, Value.int .i64 0] 61)
  have bL := heap_alloc_new (w.alloc (.cells #[Value.int .i64 a, Value.int .i64 b] 57)) (.cells #[Value.pointer none, Value.pointer none, Value.nilFunc, Value.int .i64 0, Value.int .i64 0, Value.pointer none, Value.pointer none, Value.nilFunc, Value.int .i64 0, Value.int .i64 0] 61)
  have z1 : (w.alloc (.cells #[Value.int .i64 a, Value.int .i64 b] 57)).heap.size = w.heap.size + 1 := by simp
  have z2 : ((w.alloc (.cells #[Value.int .i64 a, Value.int .i64 b] 57)).alloc (.cells #[Value.pointer none, Value.pointer none, Value.nilFunc, Value.int .i64 0, Value.int .i64 0, Value.pointer none, Value.pointer none, Value.nilFunc, Value.int .i64 0, Value.int .i64 0] 61)).heap.size = w.heap.size + 2 := by simp
  replace bA := F2.block bA
  replace F2 := F1.trans F2
  rw [z1] at bL
  obtain ⟨w2, hw2⟩ : ∃ W, (w.alloc (.cells #[Value.int .i64 a, Value.int .i64 b] 57)).alloc (.cells #[Value.pointer none, Value.pointer none, Value.nilFunc, Value.int .i64 0, Value.int .i64 0, Value.pointer none, Value.pointer none, Value.nilFunc, Value.int .i64 0, Value.int .i64 0] 61) = W := ⟨_, rfl⟩
  rw [hw2] at F2 bA bL z2 ⊢
  have Z2 := Lib.hid z2
  clear hw2 z1 F1 z2
  go_loopw [9] (fun i wr => ∃ k : Nat, k ≤ 2 ∧ i = .int .i64 k ∧ Hid (NewAt w.heap.size w2 (w.heap.size + 1) a b k wr)) (fun i _ => 2 - (intOf i).toNat)
  case atStart => exact ⟨0, by omega, rfl, Lib.hid ⟨⟨_, bL, rfl⟩, Only.refl _, fun h => absurd h (by omega), fun h => absurd h (by omega)⟩⟩
  case round =>
    obtain ⟨k, hk, rfl, hN⟩ := hrel
    obtain ⟨⟨arr, hL, hsz⟩, hOn, hn1, hn2⟩ := hN.out
    have hA := hOn.keeps bA (by show ¬ w.heap.size = w.heap.size + 1; omega)
    have hsw := hOn.size
    have hbw : w.heap.size + 1 < wr.heap.size := by have := Z2.out; omega
    rcases (show k = 0 ∨ k = 1 ∨ k = 2 by omega) with rfl | rfl | rfl
    · have cA : wr.cell? ⟨w.heap.size, 0, none⟩ = some (.int .i64 a) := cell_at hA 0 (.int .i64 a) rfl
      clear hn1 hn2
      go_wp2_with fail
      refine (T_new a _).mono ?_
      rintro e w3 ⟨p, rfl, hT, hp, f3⟩
      have HT := Lib.hid (clT_of (B := w.heap.size) (W := wr) (S := newS a) (by rw [clone_new]; exact hT) (Nat.le_refl _) (by omega) hp)
      have cA3 := f3.cell cA
      go_wp2_with fail
      refine (D_new a _).mono ?_
      rintro e w4 ⟨q, rfl, hD, hq, f4⟩
      obtain ⟨p', q', G1, G2, e1, e2, hP⟩ := linked_of HT.out (by rw [clone_new]; exact hD) f4 f3.size (Nat.le_trans (by omega) f3.size) hq
      injection e1 with e1
      injection e2 with e2
      subst e1 e2
      have HP := Lib.hid hP
      have f34 := f3.trans f4
      have hL4 := f34.block hL
      have hpq : p.isNone = q.isNone := by
        cases p <;> cases q <;> first | rfl | (simp at hp hq; simp_all)
      clear hT hD hP cA3 HT hp hq hA hL
      go_wp2_with (first | (refine wpList_of_run (wanted_none rfl _) (exec_build_both rfl rfl rfl) ?_) | (refine wpList_store_bothM (wanted_none rfl _) _ _ rfl rfl rfl hL4 (by omega) ?_; intro arr' harr'))
      have hsz' := storeM_size harr' (by omega)
      have s34 := f34.size
      have hB5 := both_ofM (b := w.heap.size + 1) (t := 61) HP.out hbw f34.size (by omega) harr'
      rw [clone_new] at hB5
      have OS : Only (fun j => j = w.heap.size + 1) w4 (w4.putObj (w.heap.size + 1) (.cells arr' 61 (0, 0))) := Only.put _ _ rfl
      have hpt := World.putObj_heap_same (o := .cells arr' 61 (0, 0)) (Nat.lt_of_lt_of_le hbw f34.size)
      have hge1 : ∀ j, G1 j ∨ G2 j → w.heap.size ≤ j := fun j hj => by have := (HP.out.2.2.2.1 j hj).1; omega
      have hge2 : ∀ j, G1 j ∨ G2 j → wr.heap.size ≤ j := fun j hj => (HP.out.2.2.2.1 j hj).1
      go_roundw
      case rel => exact ⟨1, by omega, rfl, Lib.hid ⟨⟨arr', hpt, by omega⟩, (hOn.trans (Only.fut f34)).trans OS, fun _ => ⟨_, p, q, G1, G2, hB5, hge1⟩, fun h => absurd h (by omega)⟩⟩
      case measure => simp [intOf]
    · have cA : wr.cell? ⟨w.heap.size, 1, none⟩ = some (.int .i64 b) := cell_at hA 1 (.int .i64 b) rfl
      have HN1 := Lib.hid (hn1 rfl); clear hn1 hn2
      go_wp2_with fail
      refine (T_new b _).mono ?_
      rintro e w3 ⟨p, rfl, hT, hp, f3⟩
      have HT := Lib.hid (clT_of (B := w.heap.size) (W := wr) (S := newS b) (by rw [clone_new]; exact hT) (Nat.le_refl _) (by omega) hp)
      have cA3 := f3.cell cA
      go_wp2_with fail
      refine (D_new b _).mono ?_
      rintro e w4 ⟨q, rfl, hD, hq, f4⟩
      obtain ⟨p', q', G1, G2, e1, e2, hP⟩ := linked_of HT.out (by rw [clone_new]; exact hD) f4 f3.size (Nat.le_trans (by omega) f3.size) hq
      injection e1 with e1
      injection e2 with e2
      subst e1 e2
      have HP := Lib.hid hP
      have f34 := f3.trans f4
      have hL4 := f34.block hL
      have hpq : p.isNone = q.isNone := by
        cases p <;> cases q <;> first | rfl | (simp at hp hq; simp_all)
      clear hT hD hP cA3 HT hp hq hA hL
      go_wp2_with (first | (refine wpList_of_run (wanted_none rfl _) (exec_build_both rfl rfl rfl) ?_) | (refine wpList_store_bothM (wanted_none rfl _) _ _ rfl rfl rfl hL4 (by omega) ?_; intro arr' harr'))
      have hsz' := storeM_size harr' (by omega)
      have s34 := f34.size
      have hB5 := both_ofM (b := w.heap.size + 1) (t := 61) HP.out hbw f34.size (by omega) harr'
      rw [clone_new] at hB5
      have OS : Only (fun j => j = w.heap.size + 1) w4 (w4.putObj (w.heap.size + 1) (.cells arr' 61 (0, 0))) := Only.put _ _ rfl
      have hpt := World.putObj_heap_same (o := .cells arr' 61 (0, 0)) (Nat.lt_of_lt_of_le hbw f34.size)
      have hge1 : ∀ j, G1 j ∨ G2 j → w.heap.size ≤ j := fun j hj => by have := (HP.out.2.2.2.1 j hj).1; omega
      have hge2 : ∀ j, G1 j ∨ G2 j → wr.heap.size ≤ j := fun j hj => (HP.out.2.2.2.1 j hj).1
      obtain ⟨O0, p0, q0, FT0, FD0, hB0, hO0⟩ := HN1.out
      have hB0' := (hB0.fut f34).beside (G := fun _ => False) (lo := 5) (hi := 10) (OS.mono fun j _ hj => .inr hj) (fun _ _ h => h) (same_put hL4 harr') (.inl (by omega))
      go_roundw
      case rel => exact ⟨2, by omega, rfl, Lib.hid ⟨⟨arr', hpt, by omega⟩, (hOn.trans (Only.fut f34)).trans OS, fun h => absurd h (by omega), fun _ => ⟨O0, p0, q0, _, _, _, FT0, FD0, _, p, q, _, _, _, G1, G2, hB0', hB5, fun j hj hk => (by have := hB0.lt j hj; have := hge2 j hk; omega), fun j hj => hj.elim (hO0 j) (hge1 j)⟩⟩⟩
      case measure => simp [intOf]
    · have hTw := hn2 rfl
      have HP0 : Hid (PlayAt (w.heap.size + 1) w 0 wr) := Lib.hid ⟨((Only.fut F2).then hOn (S := fun j => w.heap.size ≤ j) fun j hj _ => by have hj' : j = w.heap.size + 1 := hj; omega).toFut fun j hj => hj, _, _, hTw, by rw [rows_new]; simp, by rw [rows_new]; simp, by rw [gone_new]; simp, by rw [gone_new]; simp⟩
      clear hn1 hn2 hA hOn hL hN hTw bA bL F2 Z2 hsw hbw hsz
      go_wp2_with fail
      go_loopw [14] (fun i wr => ∃ k : Nat, k ≤ l.length ∧ i = .int .i64 k ∧ Hid (PlayAt (w.heap.size + 1) w k wr)) (fun i _ => l.length - (intOf i).toNat)
      case atStart => exact ⟨0, Nat.zero_le _, rfl, HP0⟩
      case round =>
        obtain ⟨k, hk, rfl, hP⟩ := hrel
        clear HP0
        by_cases hlt : k < l.length
        · obtain ⟨hF, S0, S1, ⟨O0, p0, q0, kv0, f0, t0, FT0, FD0, O1, p1, q1, kv1, f1, t1, FT1, FD1, hB0, hB1, hdis, hge⟩, hr0, hr1, hg0, hg1⟩ := hP.out
          obtain ⟨gb, ob, rfl, hop0, hok⟩ := op_at H.out hlt
          have hgb := hop0.lt
          have hop := hop0.fut hF
          generalize l[k] = o at hop hok
          have hro := hok.row
          have c0 : wr.cell? ⟨gb, ob + k * 29, none⟩ = some (.int .i64 o.on) := hop 0 _ rfl
          have c1 : wr.cell? ⟨gb, ob + k * 29 + 1, none⟩ = some (.int .i64 o.kind) := hop 1 _ rfl
          have hltI : (k : Int) < l.length := by omega
          have e1 : (0 : Int) ≤ k ∧ (k : Int) < l.length := by omega
          have HB0 := Lib.hid hB0
          have HB1 := Lib.hid hB1
          have HOP := Lib.hid hop
          clear hB0 hB1 hop hop0 hP
          have hlr : k < 1040000000000 := by omega
          have hge0 : ∀ j, O0 j → w.heap.size ≤ j := fun j hj => hge j (.inl hj)
          have hge1 : ∀ j, O1 j → w.heap.size ≤ j := fun j hj => hge j (.inr hj)
          have hlt0 : ∀ j, O0 j → j < wr.heap.size := HB0.out.lt
          have hlt1 : ∀ j, O1 j → j < wr.heap.size := HB1.out.lt
          have e3 : IntKind.i64.wrap ((k : Int) + 1) = ((k + 1 : Nat) : Int) := by rw [IntKind.wrap_i64]; omega
          have hbb : w.heap.size + 1 < wr.heap.size := by
            obtain ⟨arr, ty, h0, _⟩ := HB0.out.room
            exact (Array.getElem?_eq_some_iff.1 h0).1
          have hsF := hF.size
          have ew0 : IntKind.i64.wrap 0 = 0 := by decide
          have ew1 : IntKind.i64.wrap 1 = 1 := by decide
          rcases hon : (o.on.tmod 2 != 0) with _ | _
          · have cK0 : wr.cell? ⟨w.heap.size + 1, 0, none⟩ = some (.pointer p0) := HB0.out.cell.1
            have cK1 : wr.cell? ⟨w.heap.size + 1, 1, none⟩ = some (.pointer q0) := HB0.out.cell.2.1
            by_cases hk11 : o.kind = 11
            · go_wp2_with fail
              letI i1 : OnL.Mut := OnL.Mut.link 11 77 82 (Linked w.heap.size wr S0) fun hf hk => Linked.fut hk hf
              refine OnL.wp_graph 13 [.d, .d, .d, .d, .d, .d, .r (fun v w' => ClT w.heap.size wr S0 v w'), .d, .d, .d, .d, .r (fun v w => True), .r (fun v w' => Joined w.heap.size wr S0 v w')] (by kernel_rfl) (by kernel_rfl) (by kernel_rfl) (.inl (by kernel_rfl)) OnL.link_dep ?_
              simp only [List.take_succ_cons, List.take_zero, List.drop_succ_cons, List.drop_zero, Exs]
              iterate 10 apply Exists.intro
              apply OnL.Run.valG (.inl (Nat.ne_of_beq_eq_false rfl)) (wanted_none rfl _)
              · intro w1 h1 hk
                replace h1 : Fut _ _ := h1
                have hg := (Fut.drew _).trans h1; have q0 := h1.cell cK0; have q1 := h1.cell cK1
                go_simp; rfl
              simp only [Act.put, List.setIfInBounds_toArray, List.set_cons_succ, List.set_cons_zero, List.nil_append, List.cons_append]
              apply OnL.Run.valG (.inl (Nat.ne_of_beq_eq_false rfl)) (wanted_none rfl _)
              · intro w1 h1 hk
                replace h1 : Fut _ _ := h1
                have hg := (Fut.drew _).trans h1; have q0 := h1.cell cK0; have q1 := h1.cell cK1
                go_simp; rfl
              simp only [Act.put, List.setIfInBounds_toArray, List.set_cons_succ, List.set_cons_zero, List.nil_append, List.cons_append]
              apply OnL.Run.valG (.inl (Nat.ne_of_beq_eq_false rfl)) (wanted_none rfl _)
              · intro w1 h1 hk
                replace h1 : Fut _ _ := h1
                have hg := (Fut.drew _).trans h1; have q0 := h1.cell cK0; have q1 := h1.cell cK1
                go_simp; rfl
              simp only [Act.put, List.setIfInBounds_toArray, List.set_cons_succ, List.set_cons_zero, List.nil_append, List.cons_append]
              apply OnL.Run.valG (.inl (Nat.ne_of_beq_eq_false rfl)) (wanted_none rfl _)
              · intro w1 h1 hk
                replace h1 : Fut _ _ := h1
                have hg := (Fut.drew _).trans h1; have q0 := h1.cell cK0; have q1 := h1.cell cK1
                go_simp; rfl
              simp only [Act.put, List.setIfInBounds_toArray, List.set_cons_succ, List.set_cons_zero, List.nil_append, List.cons_append]
              apply OnL.Run.valG (.inl (Nat.ne_of_beq_eq_false rfl)) (wanted_none rfl _)
              · intro w1 h1 hk
                replace h1 : Fut _ _ := h1
                have hg := (Fut.drew _).trans h1; have q0 := h1.cell cK0; have q1 := h1.cell cK1
                go_simp; rfl
              simp only [Act.put, List.setIfInBounds_toArray, List.set_cons_succ, List.set_cons_zero, List.nil_append, List.cons_append]
              apply OnL.Run.valG (.inl (Nat.ne_of_beq_eq_false rfl)) (wanted_none rfl _)
              · intro w1 h1 hk
                replace h1 : Fut _ _ := h1
                have hg := (Fut.drew _).trans h1; have q0 := h1.cell cK0; have q1 := h1.cell cK1
                go_simp; rfl
              simp only [Act.put, List.setIfInBounds_toArray, List.set_cons_succ, List.set_cons_zero, List.nil_append, List.cons_append]
              apply OnL.Run.callR (.inl (Nat.ne_of_beq_eq_false rfl)) (wanted_none rfl _) (by intro v w w' hf hs; replace hf : Fut _ _ := hf; exact ClT.fut hs hf) (fun _ _ => by go_simp; exact ⟨rfl, rfl⟩)
              · intro w1 h1 hk
                replace h1 : Fut _ _ := h1
                have hg := (Fut.drew _).trans h1; have q0 := h1.cell cK0; have q1 := h1.cell cK1
                refine (T_clone (HB0.out.fut hg).T (by omega)).mono ?_; rintro e w' ⟨p', rfl, hT, hn, hf⟩; exact ⟨_, rfl, hf, clT_of hT hg.size (HB0.out.fut hg).base hn⟩
              intro v6
              simp only [Act.put, List.setIfInBounds_toArray, List.set_cons_succ, List.set_cons_zero, List.nil_append, List.cons_append]
              apply OnL.Run.valG (.inl (Nat.ne_of_beq_eq_false rfl)) (wanted_none rfl _)
              · intro w1 h1 hk
                replace h1 : Fut _ _ := h1
                have hg := (Fut.drew _).trans h1; have q0 := h1.cell cK0; have q1 := h1.cell cK1
                go_simp; rfl
              simp only [Act.put, List.setIfInBounds_toArray, List.set_cons_succ, List.set_cons_zero, List.nil_append, List.cons_append]
              apply OnL.Run.valG (.inl (Nat.ne_of_beq_eq_false rfl)) (wanted_none rfl _)
              · intro w1 h1 hk
                replace h1 : Fut _ _ := h1
                have hg := (Fut.drew _).trans h1; have q0 := h1.cell cK0; have q1 := h1.cell cK1
                go_simp; rfl
              simp only [Act.put, List.setIfInBounds_toArray, List.set_cons_succ, List.set_cons_zero, List.nil_append, List.cons_append]
              apply OnL.Run.valG (.inl (Nat.ne_of_beq_eq_false rfl)) (wanted_none rfl _)
              · intro w1 h1 hk
                replace h1 : Fut _ _ := h1
                have hg := (Fut.drew _).trans h1; have q0 := h1.cell cK0; have q1 := h1.cell cK1
                go_simp; rfl
              simp only [Act.put, List.setIfInBounds_toArray, List.set_cons_succ, List.set_cons_zero, List.nil_append, List.cons_append]
              apply OnL.Run.valG (.inl (Nat.ne_of_beq_eq_false rfl)) (wanted_none rfl _)
              · intro w1 h1 hk
                replace h1 : Fut _ _ := h1
                have hg := (Fut.drew _).trans h1; have q0 := h1.cell cK0; have q1 := h1.cell cK1
                go_simp; rfl
              simp only [Act.put, List.setIfInBounds_toArray, List.set_cons_succ, List.set_cons_zero, List.nil_append, List.cons_append]
              apply OnL.Run.linkR (wanted_none rfl _) (by intro v w w' hf hs; replace hf : Fut _ _ := hf; exact trivial) (fun _ _ => by go_simp; exact ⟨rfl, rfl⟩)
              · intro w1 h1 hk
                replace h1 : Fut _ _ := h1
                have f6 := Facts.get hk 0 rfl (by kernel_rfl)
                have hg := (Fut.drew _).trans h1; have q0 := h1.cell cK0; have q1 := h1.cell cK1
                refine (D_clone (HB0.out.fut hg).D (by omega)).mono ?_; rintro e w' ⟨q', rfl, hD, hn, hf⟩; exact ⟨_, rfl, hf, linked_of f6 hD hf hg.size (HB0.out.fut hg).base hn, trivial⟩
              intro v11
              simp only [Act.put, List.setIfInBounds_toArray, List.set_cons_succ, List.set_cons_zero, List.nil_append, List.cons_append]
              apply OnL.Run.joinR (.inl (Nat.ne_of_beq_eq_false rfl)) (by kernel_rfl) (wanted_none rfl _) (by intro v w w' hf hs; replace hf : Fut _ _ := hf; exact Joined.fut hs hf)
              · intro w1 h1 hk hJ
                replace h1 : Fut _ _ := h1
                have f6 := Facts.get hk 0 rfl (by kernel_rfl)
                have f11 := Facts.get hk 1 rfl (by kernel_rfl)
                have hg := (Fut.drew _).trans h1; have q0 := h1.cell cK0; have q1 := h1.cell cK1
                obtain ⟨p', q', G1, G2, e1, e2, hP⟩ := (show Linked w.heap.size wr S0 _ _ _ from hJ); exact ⟨_, _, exec_build_both rfl e1 e2, Fut.refl _, p', q', G1, G2, rfl, hP⟩
              intro v12
              simp only [Act.put, List.setIfInBounds_toArray, List.set_cons_succ, List.set_cons_zero, List.nil_append, List.cons_append]
              apply OnL.Run.done
              intro w3 h3 hk hJ
              obtain ⟨f6, f11, f12, _⟩ := hk
              replace h3 : Fut _ _ := h3
              clear i1 hJ f11 f6
              obtain ⟨p2, q2, G1, G2, rfl, hP2⟩ := f12
              have g3 := (Fut.drew _).trans h3
              obtain ⟨arr, ty, hL, hsz⟩ := (HB1.out.fut g3).room
              have HP2 := Lib.hid hP2
              clear h3 hP2
              go_wp2_with (first | (refine wpList_store_bothM (wanted_none rfl _) _ _ rfl rfl rfl hL hsz ?_; intro arr' harr'))
              have OS : Only (fun j => j = w.heap.size + 1) w3 (w3.putObj (w.heap.size + 1) (.cells arr' ty (0, 0))) := Only.put _ _ rfl
              have s3 := g3.size
              have sS := OS.size
              have HNew := Lib.hid (both_ofM (b := w.heap.size + 1) (t := ty) (off := 5) HP2.out hbb g3.size (by omega) harr')
              have HOld := Lib.hid ((HB0.out.fut g3).beside (G := fun _ => False) (lo := 5) (hi := 5 + 5) (OS.mono fun j _ hj => .inr hj) (fun _ _ h => h) (same_put hL harr') (by omega))
              have HOP4 := Lib.hid ((HOP.out.fut g3).only OS (by show ¬ gb = w.heap.size + 1; omega))
              have hF4 := ((Only.fut (hF.trans g3)).trans (OS.mono (S' := fun j => w.heap.size ≤ j) fun j _ hj => by have hj' : j = w.heap.size + 1 := hj; omega)).toFut fun j hj => hj
              have hge2 : ∀ j, G1 j ∨ G2 j → wr.heap.size ≤ j := fun j hj => (HP2.out.2.2.2.1 j hj).1
              have hpq : p2.isNone = q2.isNone := by
                have h5 := HP2.out.2.2.2.2
                cases p2 <;> cases q2 <;> first | rfl | (simp at h5; done) | (simp at h5; simp_all)
              obtain ⟨dn, hdn0⟩ : ∃ d, p2.isNone = d := ⟨_, rfl⟩
              rw [hdn0] at hpq
              replace hpq := hpq.symm
              obtain ⟨W4, hW4⟩ : ∃ W, w3.putObj (w.heap.size + 1) (.cells arr' ty (0, 0)) = W := ⟨_, rfl⟩
              rw [hW4] at HNew HOld HOP4 hF4 sS OS ⊢
              clear hW4 OS hL harr' HP2
              have d0 : W4.cell? ⟨w.heap.size + 1, 5, none⟩ = some (.pointer p2) := HNew.out.cell.1
              have d1 : W4.cell? ⟨w.heap.size + 1, 6, none⟩ = some (.pointer q2) := HNew.out.cell.2.1
              refine wp_graph 13 [.d, .d, .d, .d, .d, .d, .d, .d, .d, .d, .d, .d, .d] (by kernel_rfl) (by kernel_rfl) (by kernel_rfl) ?_
              simp only [List.take_succ_cons, List.take_zero, List.drop_succ_cons, List.drop_zero, Exs]
              iterate 13 apply Exists.intro
              apply Run.valG (wanted_none rfl _)
              · intro w1 h1 hk
                have q0 := h1.cell d0; have q1 := h1.cell d1
                have hcw := fun b o => Below.cell (p := ⟨b, o, none⟩) h1
                go_simp; rfl
              simp only [Act.put, List.setIfInBounds_toArray, List.set_cons_succ, List.set_cons_zero, List.nil_append, List.cons_append]
              apply Run.valG (wanted_none rfl _)
              · intro w1 h1 hk
                have q0 := h1.cell d0; have q1 := h1.cell d1
                have hcw := fun b o => Below.cell (p := ⟨b, o, none⟩) h1
                go_simp; rfl
              simp only [Act.put, List.setIfInBounds_toArray, List.set_cons_succ, List.set_cons_zero, List.nil_append, List.cons_append]
              apply Run.valG (wanted_none rfl _)
              · intro w1 h1 hk
                have q0 := h1.cell d0; have q1 := h1.cell d1
                have hcw := fun b o => Below.cell (p := ⟨b, o, none⟩) h1
                go_simp; rfl
              simp only [Act.put, List.setIfInBounds_toArray, List.set_cons_succ, List.set_cons_zero, List.nil_append, List.cons_append]
              apply Run.valG (wanted_none rfl _)
              · intro w1 h1 hk
                have q0 := h1.cell d0; have q1 := h1.cell d1
                have hcw := fun b o => Below.cell (p := ⟨b, o, none⟩) h1
                go_simp; rfl
              simp only [Act.put, List.setIfInBounds_toArray, List.set_cons_succ, List.set_cons_zero, List.nil_append, List.cons_append]
              apply Run.valG (wanted_none rfl _)
              · intro w1 h1 hk
                have q0 := h1.cell d0; have q1 := h1.cell d1
                have hcw := fun b o => Below.cell (p := ⟨b, o, none⟩) h1
                go_simp; rfl
              simp only [Act.put, List.setIfInBounds_toArray, List.set_cons_succ, List.set_cons_zero, List.nil_append, List.cons_append]
              apply Run.valG (wanted_none rfl _)
              · intro w1 h1 hk
                have q0 := h1.cell d0; have q1 := h1.cell d1
                have hcw := fun b o => Below.cell (p := ⟨b, o, none⟩) h1
                go_simp; rfl
              simp only [Act.put, List.setIfInBounds_toArray, List.set_cons_succ, List.set_cons_zero, List.nil_append, List.cons_append]
              apply Run.valG (wanted_none rfl _)
              · intro w1 h1 hk
                have q0 := h1.cell d0; have q1 := h1.cell d1
                have hcw := fun b o => Below.cell (p := ⟨b, o, none⟩) h1
                go_simp; rfl
              simp only [Act.put, List.setIfInBounds_toArray, List.set_cons_succ, List.set_cons_zero, List.nil_append, List.cons_append]
              apply Run.valG (wanted_none rfl _)
              · intro w1 h1 hk
                have q0 := h1.cell d0; have q1 := h1.cell d1
                have hcw := fun b o => Below.cell (p := ⟨b, o, none⟩) h1
                go_simp; rfl
              simp only [Act.put, List.setIfInBounds_toArray, List.set_cons_succ, List.set_cons_zero, List.nil_append, List.cons_append]
              apply Run.valG (wanted_none rfl _)
              · intro w1 h1 hk
                have q0 := h1.cell d0; have q1 := h1.cell d1
                have hcw := fun b o => Below.cell (p := ⟨b, o, none⟩) h1
                go_simp; rfl
              simp only [Act.put, List.setIfInBounds_toArray, List.set_cons_succ, List.set_cons_zero, List.nil_append, List.cons_append]
              apply Run.valG (wanted_none rfl _)
              · intro w1 h1 hk
                have q0 := h1.cell d0; have q1 := h1.cell d1
                have hcw := fun b o => Below.cell (p := ⟨b, o, none⟩) h1
                go_simp; rfl
              simp only [Act.put, List.setIfInBounds_toArray, List.set_cons_succ, List.set_cons_zero, List.nil_append, List.cons_append]
              apply Run.valG (wanted_none rfl _)
              · intro w1 h1 hk
                have q0 := h1.cell d0; have q1 := h1.cell d1
                have hcw := fun b o => Below.cell (p := ⟨b, o, none⟩) h1
                go_simp; rfl
              simp only [Act.put, List.setIfInBounds_toArray, List.set_cons_succ, List.set_cons_zero, List.nil_append, List.cons_append]
              apply Run.valG (wanted_none rfl _)
              · intro w1 h1 hk
                have q0 := h1.cell d0; have q1 := h1.cell d1
                have hcw := fun b o => Below.cell (p := ⟨b, o, none⟩) h1
                go_simp; rfl
              simp only [Act.put, List.setIfInBounds_toArray, List.set_cons_succ, List.set_cons_zero, List.nil_append, List.cons_append]
              apply Run.valG (wanted_none rfl _)
              · intro w1 h1 hk
                have q0 := h1.cell d0; have q1 := h1.cell d1
                have hcw := fun b o => Below.cell (p := ⟨b, o, none⟩) h1
                go_simp; rfl
              simp only [Act.put, List.setIfInBounds_toArray, List.set_cons_succ, List.set_cons_zero, List.nil_append, List.cons_append]
              apply Run.done
              intro w5 h5 hk
              clear hk
              have g5 := (Fut.drew _).trans h5
              have hFW := hF4.trans g5
              have HK := Lib.hid (HOld.out.fut g5)
              have HO := Lib.hid (HNew.out.fut g5)
              have HOPW := Lib.hid (HOP4.out.fut g5)
              have s5 := g5.size
              have hdisW : ∀ j, O0 j → ¬ (G1 j ∨ G2 j) := fun j hj hk => by have := hlt0 j hj; have := hge2 j hk; omega
              have hgeK := hge0
              have hgeO : ∀ j, G1 j ∨ G2 j → w.heap.size ≤ j := fun j hj => by have := hge2 j hj; omega
              have hltO : ∀ j, G1 j ∨ G2 j → j < w5.heap.size := HO.out.lt
              have hrc : (rowsS (cloneS S0)).length ≤ k := by rw [rows_clone]; exact hr0
              have hgc : goneS (cloneS S0) ≤ k := by rw [gone_clone]; exact Nat.zero_le _
              clear h5 g5 hF4 HNew HOld HOP4 d0 d1 cK0 cK1 HB0 HB1 HOP g3
              go_wp2_with fail
              letI i6 : OnD.Mut := OnD.Mut.late 6 (Only fun j => O0 j ∨ j = w.heap.size + 1) Only.fut Only.trans
              refine OnD.wp_graph 30 [.d, .d, .d, .d, .d, .d, .r (fun v w' => v = .bool true ∧ Full w.heap.size w5 (w.heap.size + 1) 0 5 S0 O0 p0 q0 (cloneS S0) (fun j => G1 j ∨ G2 j) p2 q2 w'), .d, .r (fun v w' => v = .bool false ∧ Full w.heap.size w5 (w.heap.size + 1) 0 5 S0 O0 p0 q0 (cloneS S0) (fun j => G1 j ∨ G2 j) p2 q2 w'), .d, .d, .d, .r (fun v w' => ∃ n : Nat, v = .int .i64 n ∧ LenOf w' q0 n), .d, .d, .d, .r (fun v w' => ∃ n : Nat, v = .int .i64 n ∧ LenOf w' q0 n), .d, .r (fun v w' => v = .bool false ∧ Full w.heap.size w5 (w.heap.size + 1) 0 5 S0 O0 p0 q0 (cloneS S0) (fun j => G1 j ∨ G2 j) p2 q2 w'), .r (fun v w' => v = .bool false ∧ Full w.heap.size w5 (w.heap.size + 1) 0 5 S0 O0 p0 q0 (cloneS S0) (fun j => G1 j ∨ G2 j) p2 q2 w'), .d, .d, .d, .r (fun v w' => ∃ n : Nat, v = .int .i64 n ∧ LenOf w' q2 n), .d, .d, .d, .r (fun v w' => ∃ n : Nat, v = .int .i64 n ∧ LenOf w' q2 n), .d, .d] (by kernel_rfl) (by kernel_rfl) (by kernel_rfl) (.inr fun _ _ => trivial) (OnD.late_dep (by kernel_rfl)) ?_
              simp only [List.take_succ_cons, List.take_zero, List.drop_succ_cons, List.drop_zero, Exs]
              iterate 22 apply Exists.intro
              apply OnD.Run.valG (.inr fun _ _ => trivial) (wanted_none rfl _)
              · intro w1 h1 hk
                go_simp; rfl
              simp only [Act.put, List.setIfInBounds_toArray, List.set_cons_succ, List.set_cons_zero, List.nil_append, List.cons_append]
              apply OnD.Run.valG (.inr fun _ _ => trivial) (wanted_none rfl _)
              · intro w1 h1 hk
                go_simp; rfl
              simp only [Act.put, List.setIfInBounds_toArray, List.set_cons_succ, List.set_cons_zero, List.nil_append, List.cons_append]
              apply OnD.Run.valG (.inr fun _ _ => trivial) (wanted_none rfl _)
              · intro w1 h1 hk
                go_simp; rfl
              simp only [Act.put, List.setIfInBounds_toArray, List.set_cons_succ, List.set_cons_zero, List.nil_append, List.cons_append]
              apply OnD.Run.valG (.inr fun _ _ => trivial) (wanted_none rfl _)
              · intro w1 h1 hk
                go_simp; rfl
              simp only [Act.put, List.setIfInBounds_toArray, List.set_cons_succ, List.set_cons_zero, List.nil_append, List.cons_append]
              apply OnD.Run.valG (.inr fun _ _ => trivial) (wanted_none rfl _)
              · intro w1 h1 hk
                go_simp; rfl
              simp only [Act.put, List.setIfInBounds_toArray, List.set_cons_succ, List.set_cons_zero, List.nil_append, List.cons_append]
              apply OnD.Run.valG (.inr fun _ _ => trivial) (wanted_none rfl _)
              · intro w1 h1 hk
                exact exec_load_Op _ rfl rfl (HOPW.out.fut ((Fut.drew _).trans (show Fut _ _ from h1))) hro
              simp only [Act.put, List.setIfInBounds_toArray, List.set_cons_succ, List.set_cons_zero, List.nil_append, List.cons_append]
              apply OnD.Run.mutR (.inr fun _ _ => trivial) (wanted_none rfl _) (by intro v w w' hf hs; exact ⟨hs.1, hs.2.fut (show Fut _ _ from hf)⟩) (fun _ _ => by go_simp; exact ⟨rfl, rfl⟩)
              · intro w1 h1 hk
                have hg := (Fut.drew w5).trans (show Fut _ _ from h1); refine (does_all (HK.out.fut hg) (by omega) (by omega) o hok (fun _ W' kv' f' t' h' => amid_any h' (by omega) (by omega) o hok)).mono ?_; intro e w' hd; obtain ⟨rfl, h2, h3⟩ := full_of (W := w5) hd (HO.out.fut hg) hdisW hg.size (by omega); exact ⟨_, rfl, OnD.Eff.late h3, rfl, h2⟩
              intro v6
              simp only [Act.put, List.setIfInBounds_toArray, List.set_cons_succ, List.set_cons_zero, List.nil_append, List.cons_append]
              apply OnD.Run.valG (.inr fun _ _ => trivial) (wanted_none rfl _)
              · intro w1 h1 hk
                have f6 := Facts.get hk 0 rfl (by kernel_rfl)
                obtain ⟨rfl, _⟩ := f6; go_simp; rfl
              simp only [Act.put, List.setIfInBounds_toArray, List.set_cons_succ, List.set_cons_zero, List.nil_append, List.cons_append]
              apply OnD.Run.valR (.inr fun _ _ => trivial) (wanted_none rfl _) (by intro v w w' hf hs; exact ⟨hs.1, hs.2.fut (show Fut _ _ from hf)⟩)
              · intro w1 h1 hk
                have f6 := Facts.get hk 0 rfl (by kernel_rfl)
                obtain ⟨rfl, hFu⟩ := f6; exact ⟨.bool false, _, (by first | (go_simp; done) | (go_simp; rfl)), Fut.refl _, rfl, hFu⟩
              intro v8
              simp only [Act.put, List.setIfInBounds_toArray, List.set_cons_succ, List.set_cons_zero, List.nil_append, List.cons_append]
              apply OnD.Run.valF (.inr fun _ _ => trivial) 
              · intro w1 h1 hk
                have f8 := Facts.get hk 1 rfl (by kernel_rfl)
                obtain ⟨rfl, _⟩ := f8
                go_simp
              · intro w1 h1 hk
                have f8 := Facts.get hk 1 rfl (by kernel_rfl)
                go_simp; rfl
              simp only [Act.put, List.setIfInBounds_toArray, List.set_cons_succ, List.set_cons_zero, List.nil_append, List.cons_append]
              apply OnD.Run.valF (.inr fun _ _ => trivial) 
              · intro w1 h1 hk
                have f8 := Facts.get hk 1 rfl (by kernel_rfl)
                obtain ⟨rfl, _⟩ := f8
                go_simp
              · intro w1 h1 hk
                have f8 := Facts.get hk 1 rfl (by kernel_rfl)
                go_simp; rfl
              simp only [Act.put, List.setIfInBounds_toArray, List.set_cons_succ, List.set_cons_zero, List.nil_append, List.cons_append]
              apply OnD.Run.valF (.inr fun _ _ => trivial) 
              · intro w1 h1 hk
                have f8 := Facts.get hk 1 rfl (by kernel_rfl)
                obtain ⟨rfl, _⟩ := f8
                go_simp
              · intro w1 h1 hk
                have f8 := Facts.get hk 1 rfl (by kernel_rfl)
                obtain ⟨_, hFu⟩ := f8; have q0 : w1.cell? ⟨w.heap.size + 1, 0, none⟩ = some (.pointer p0) := hFu.k.1; go_simp; rfl
              simp only [Act.put, List.setIfInBounds_toArray, List.set_cons_succ, List.set_cons_zero, List.nil_append, List.cons_append]
              apply OnD.Run.callRF (.inr fun _ _ => trivial) (by intro v w w' hf hs; exact (by obtain ⟨n, h1, h2⟩ := hs; exact ⟨n, h1, h2.fut (show Fut _ _ from hf)⟩)) (fun _ _ => by go_simp; exact ⟨rfl, rfl⟩)
              · intro w1 h1 hk
                have f8 := Facts.get hk 1 rfl (by kernel_rfl)
                obtain ⟨rfl, _⟩ := f8
                go_simp
              · intro w1 h1 hk
                have f8 := Facts.get hk 1 rfl (by kernel_rfl)
                obtain ⟨_, hFu⟩ := f8; obtain ⟨S9, FT9, FD9, hT9, hD9⟩ := hFu.k.2.2; refine (T_len hT9).mono ?_; rintro e w' ⟨rfl, rfl⟩; exact ⟨_, rfl, Fut.refl _, _, rfl, lenOf hD9⟩
              intro v12
              simp only [Act.put, List.setIfInBounds_toArray, List.set_cons_succ, List.set_cons_zero, List.nil_append, List.cons_append]
              apply OnD.Run.valF (.inr fun _ _ => trivial) 
              · intro w1 h1 hk
                have f8 := Facts.get hk 1 rfl (by kernel_rfl)
                obtain ⟨rfl, _⟩ := f8
                go_simp
              · intro w1 h1 hk
                have f8 := Facts.get hk 1 rfl (by kernel_rfl)
                go_simp; rfl
              simp only [Act.put, List.setIfInBounds_toArray, List.set_cons_succ, List.set_cons_zero, List.nil_append, List.cons_append]
              apply OnD.Run.valF (.inr fun _ _ => trivial) 
              · intro w1 h1 hk
                have f8 := Facts.get hk 1 rfl (by kernel_rfl)
                obtain ⟨rfl, _⟩ := f8
                go_simp
              · intro w1 h1 hk
                have f8 := Facts.get hk 1 rfl (by kernel_rfl)
                go_simp; rfl
              simp only [Act.put, List.setIfInBounds_toArray, List.set_cons_succ, List.set_cons_zero, List.nil_append, List.cons_append]
              apply OnD.Run.valF (.inr fun _ _ => trivial) 
              · intro w1 h1 hk
                have f8 := Facts.get hk 1 rfl (by kernel_rfl)
                obtain ⟨rfl, _⟩ := f8
                go_simp
              · intro w1 h1 hk
                have f8 := Facts.get hk 1 rfl (by kernel_rfl)
                obtain ⟨_, hFu⟩ := f8; have q0 : w1.cell? ⟨w.heap.size + 1, 1, none⟩ = some (.pointer q0) := hFu.k.2.1; go_simp; rfl
              simp only [Act.put, List.setIfInBounds_toArray, List.set_cons_succ, List.set_cons_zero, List.nil_append, List.cons_append]
              apply OnD.Run.callRF (.inr fun _ _ => trivial) (by intro v w w' hf hs; exact (by obtain ⟨n, h1, h2⟩ := hs; exact ⟨n, h1, h2.fut (show Fut _ _ from hf)⟩)) (fun _ _ => by go_simp; exact ⟨rfl, rfl⟩)
              · intro w1 h1 hk
                have f8 := Facts.get hk 1 rfl (by kernel_rfl)
                have f12 := Facts.get hk 2 rfl (by kernel_rfl)
                obtain ⟨rfl, _⟩ := f8
                go_simp
              · intro w1 h1 hk
                have f8 := Facts.get hk 1 rfl (by kernel_rfl)
                have f12 := Facts.get hk 2 rfl (by kernel_rfl)
                obtain ⟨_, hFu⟩ := f8; obtain ⟨S9, FT9, FD9, hT9, hD9⟩ := hFu.k.2.2; refine (D_len hD9).mono ?_; rintro e w' ⟨rfl, rfl⟩; exact ⟨_, rfl, Fut.refl _, _, rfl, lenOf hD9⟩
              intro v16
              simp only [Act.put, List.setIfInBounds_toArray, List.set_cons_succ, List.set_cons_zero, List.nil_append, List.cons_append]
              apply OnD.Run.valF (.inr fun _ _ => trivial) 
              · intro w1 h1 hk
                have f8 := Facts.get hk 1 rfl (by kernel_rfl)
                have f12 := Facts.get hk 2 rfl (by kernel_rfl)
                have f16 := Facts.get hk 3 rfl (by kernel_rfl)
                obtain ⟨rfl, _⟩ := f8
                go_simp
              · intro w1 h1 hk
                have f8 := Facts.get hk 1 rfl (by kernel_rfl)
                have f12 := Facts.get hk 2 rfl (by kernel_rfl)
                have f16 := Facts.get hk 3 rfl (by kernel_rfl)
                obtain ⟨n, rfl, h7⟩ := f12; obtain ⟨m, rfl, h8⟩ := f16; obtain rfl := lenOf_one h7 h8; go_simp; rfl
              simp only [Act.put, List.setIfInBounds_toArray, List.set_cons_succ, List.set_cons_zero, List.nil_append, List.cons_append]
              apply OnD.Run.valR (.inr fun _ _ => trivial) (wanted_none rfl _) (by intro v w w' hf hs; exact ⟨hs.1, hs.2.fut (show Fut _ _ from hf)⟩)
              · intro w1 h1 hk
                have f8 := Facts.get hk 1 rfl (by kernel_rfl)
                obtain ⟨rfl, hFu⟩ := f8; exact ⟨.bool false, _, (by first | (go_simp; done) | (go_simp; rfl)), Fut.refl _, rfl, hFu⟩
              intro v18
              simp only [Act.put, List.setIfInBounds_toArray, List.set_cons_succ, List.set_cons_zero, List.nil_append, List.cons_append]
              apply OnD.Run.valR (.inr fun _ _ => trivial) (wanted_none rfl _) (by intro v w w' hf hs; exact ⟨hs.1, hs.2.fut (show Fut _ _ from hf)⟩)
              · intro w1 h1 hk
                have f16 := Facts.get hk 3 rfl (by kernel_rfl)
                have f18 := Facts.get hk 4 rfl (by kernel_rfl)
                obtain ⟨rfl, hFu⟩ := f18; exact ⟨.bool false, _, (by first | (go_simp; done) | (go_simp; rfl)), Fut.refl _, rfl, hFu⟩
              intro v19
              simp only [Act.put, List.setIfInBounds_toArray, List.set_cons_succ, List.set_cons_zero, List.nil_append, List.cons_append]
              apply OnD.Run.valF (.inr fun _ _ => trivial) 
              · intro w1 h1 hk
                have f19 := Facts.get hk 5 rfl (by kernel_rfl)
                obtain ⟨rfl, _⟩ := f19
                go_simp
              · intro w1 h1 hk
                have f19 := Facts.get hk 5 rfl (by kernel_rfl)
                go_simp; rfl
              simp only [Act.put, List.setIfInBounds_toArray, List.set_cons_succ, List.set_cons_zero, List.nil_append, List.cons_append]
              apply OnD.Run.valF (.inr fun _ _ => trivial) 
              · intro w1 h1 hk
                have f19 := Facts.get hk 5 rfl (by kernel_rfl)
                obtain ⟨rfl, _⟩ := f19
                go_simp
              · intro w1 h1 hk
                have f19 := Facts.get hk 5 rfl (by kernel_rfl)
                go_simp; rfl
              simp only [Act.put, List.setIfInBounds_toArray, List.set_cons_succ, List.set_cons_zero, List.nil_append, List.cons_append]
              apply OnD.Run.valF (.inr fun _ _ => trivial) 
              · intro w1 h1 hk
                have f19 := Facts.get hk 5 rfl (by kernel_rfl)
                obtain ⟨rfl, _⟩ := f19
                go_simp
              · intro w1 h1 hk
                have f19 := Facts.get hk 5 rfl (by kernel_rfl)
                obtain ⟨_, hFu⟩ := f19; have q0 : w1.cell? ⟨w.heap.size + 1, 5, none⟩ = some (.pointer p2) := hFu.o.1; go_simp; rfl
              simp only [Act.put, List.setIfInBounds_toArray, List.set_cons_succ, List.set_cons_zero, List.nil_append, List.cons_append]
              apply OnD.Run.callRF (.inr fun _ _ => trivial) (by intro v w w' hf hs; exact (by obtain ⟨n, h1, h2⟩ := hs; exact ⟨n, h1, h2.fut (show Fut _ _ from hf)⟩)) (fun _ _ => by go_simp; exact ⟨rfl, rfl⟩)
              · intro w1 h1 hk
                have f19 := Facts.get hk 5 rfl (by kernel_rfl)
                obtain ⟨rfl, _⟩ := f19
                go_simp
              · intro w1 h1 hk
                have f19 := Facts.get hk 5 rfl (by kernel_rfl)
                obtain ⟨_, hFu⟩ := f19; obtain ⟨S9, FT9, FD9, hT9, hD9⟩ := hFu.o.2.2; refine (T_len hT9).mono ?_; rintro e w' ⟨rfl, rfl⟩; exact ⟨_, rfl, Fut.refl _, _, rfl, lenOf hD9⟩
              intro v23
              simp only [Act.put, List.setIfInBounds_toArray, List.set_cons_succ, List.set_cons_zero, List.nil_append, List.cons_append]
              apply OnD.Run.valF (.inr fun _ _ => trivial) 
              · intro w1 h1 hk
                have f19 := Facts.get hk 5 rfl (by kernel_rfl)
                obtain ⟨rfl, _⟩ := f19
                go_simp
              · intro w1 h1 hk
                have f19 := Facts.get hk 5 rfl (by kernel_rfl)
                go_simp; rfl
              simp only [Act.put, List.setIfInBounds_toArray, List.set_cons_succ, List.set_cons_zero, List.nil_append, List.cons_append]
              apply OnD.Run.valF (.inr fun _ _ => trivial) 
              · intro w1 h1 hk
                have f19 := Facts.get hk 5 rfl (by kernel_rfl)
                obtain ⟨rfl, _⟩ := f19
                go_simp
              · intro w1 h1 hk
                have f19 := Facts.get hk 5 rfl (by kernel_rfl)
                go_simp; rfl
              simp only [Act.put, List.setIfInBounds_toArray, List.set_cons_succ, List.set_cons_zero, List.nil_append, List.cons_append]
              apply OnD.Run.valF (.inr fun _ _ => trivial) 
              · intro w1 h1 hk
                have f19 := Facts.get hk 5 rfl (by kernel_rfl)
                obtain ⟨rfl, _⟩ := f19
                go_simp
              · intro w1 h1 hk
                have f19 := Facts.get hk 5 rfl (by kernel_rfl)
                obtain ⟨_, hFu⟩ := f19; have q0 : w1.cell? ⟨w.heap.size + 1, 6, none⟩ = some (.pointer q2) := hFu.o.2.1; go_simp; rfl
              simp only [Act.put, List.setIfInBounds_toArray, List.set_cons_succ, List.set_cons_zero, List.nil_append, List.cons_append]
              apply OnD.Run.callRF (.inr fun _ _ => trivial) (by intro v w w' hf hs; exact (by obtain ⟨n, h1, h2⟩ := hs; exact ⟨n, h1, h2.fut (show Fut _ _ from hf)⟩)) (fun _ _ => by go_simp; exact ⟨rfl, rfl⟩)
              · intro w1 h1 hk
                have f19 := Facts.get hk 5 rfl (by kernel_rfl)
                have f23 := Facts.get hk 6 rfl (by kernel_rfl)
                obtain ⟨rfl, _⟩ := f19
                go_simp
              · intro w1 h1 hk
                have f19 := Facts.get hk 5 rfl (by kernel_rfl)
                have f23 := Facts.get hk 6 rfl (by kernel_rfl)
                obtain ⟨_, hFu⟩ := f19; obtain ⟨S9, FT9, FD9, hT9, hD9⟩ := hFu.o.2.2; refine (D_len hD9).mono ?_; rintro e w' ⟨rfl, rfl⟩; exact ⟨_, rfl, Fut.refl _, _, rfl, lenOf hD9⟩
              intro v27
              simp only [Act.put, List.setIfInBounds_toArray, List.set_cons_succ, List.set_cons_zero, List.nil_append, List.cons_append]
              apply OnD.Run.valF (.inr fun _ _ => trivial) 
              · intro w1 h1 hk
                have f19 := Facts.get hk 5 rfl (by kernel_rfl)
                have f23 := Facts.get hk 6 rfl (by kernel_rfl)
                have f27 := Facts.get hk 7 rfl (by kernel_rfl)
                obtain ⟨rfl, _⟩ := f19
                go_simp
              · intro w1 h1 hk
                have f19 := Facts.get hk 5 rfl (by kernel_rfl)
                have f23 := Facts.get hk 6 rfl (by kernel_rfl)
                have f27 := Facts.get hk 7 rfl (by kernel_rfl)
                obtain ⟨n, rfl, h7⟩ := f23; obtain ⟨m, rfl, h8⟩ := f27; obtain rfl := lenOf_one h7 h8; go_simp; rfl
              simp only [Act.put, List.setIfInBounds_toArray, List.set_cons_succ, List.set_cons_zero, List.nil_append, List.cons_append]
              apply OnD.Run.valG (.inr fun _ _ => trivial) (wanted_none rfl _)
              · intro w1 h1 hk
                have f19 := Facts.get hk 5 rfl (by kernel_rfl)
                obtain ⟨rfl, _⟩ := f19; go_simp; rfl
              simp only [Act.put, List.setIfInBounds_toArray, List.set_cons_succ, List.set_cons_zero, List.nil_append, List.cons_append]
              apply OnD.Run.done
              intro w6 h6 hk hJ
              obtain ⟨f6, f8, f12, f16, f18, f19, f23, f27, _⟩ := hk
              obtain ⟨_, ⟨S', O', kv', x', t', FT', FD', hBn, hrn, hgn, hOn⟩, kv9, x9, t9, FT9, FD9, hBo⟩ := f19
              have hO6 : Only (fun j => O0 j ∨ j = w.heap.size + 1) w5 w6 := (Only.fut (Fut.drew _)).trans (show Only (fun j => O0 j ∨ j = w.heap.size + 1) _ _ from h6)
              have hF6 : Fut w w6 := ((Only.fut hFW).trans (hO6.mono (S' := fun j => w.heap.size ≤ j) fun j _ hj => hj.elim (hgeK j) fun e => by omega)).toFut fun j hj => hj
              clear i6 h6 hJ f6 f8 f12 f16 f18 f23 f27
              have HBn := Lib.hid hBn
              have HBo' := Lib.hid hBo
              have hdn : ∀ j, O' j → ¬ (fun j => G1 j ∨ G2 j) j := fun j hj hk => (hOn j hj).elim (fun h => hdisW j h hk) fun h => by have := hltO j hk; omega
              have hgn2 : ∀ j, O' j → w.heap.size ≤ j := fun j hj => (hOn j hj).elim (hgeK j) fun h => by omega
              clear hBn hBo hO6
              go_wp2
              go_roundw
              case rel => exact ⟨k + 1, by omega, by go_num, Lib.hid ⟨hF6, _, _, ⟨O', p0, q0, kv', x', t', FT', FD', (fun j => G1 j ∨ G2 j), p2, q2, kv9, x9, t9, FT9, FD9, HBn.out, HBo'.out, hdn, fun j hj => hj.elim (hgn2 j) (hgeO j)⟩, by omega, by omega, by omega, by omega⟩⟩
              case measure => simp [intOf] <;> omega
            · have hFW := hF
              have hdisW : ∀ j, O0 j → ¬ O1 j := hdis
              have hgeK := hge0
              have hgeO := hge1
              have hltO := hlt1
              go_wp2_with fail
              letI i6 : OnD.Mut := OnD.Mut.late 6 (Only fun j => O0 j ∨ j = w.heap.size + 1) Only.fut Only.trans
              refine OnD.wp_graph 30 [.d, .d, .d, .d, .d, .d, .r (fun v w' => v = .bool true ∧ Full w.heap.size wr (w.heap.size + 1) 0 5 S0 O0 p0 q0 S1 O1 p1 q1 w'), .d, .r (fun v w' => v = .bool false ∧ Full w.heap.size wr (w.heap.size + 1) 0 5 S0 O0 p0 q0 S1 O1 p1 q1 w'), .d, .d, .d, .r (fun v w' => ∃ n : Nat, v = .int .i64 n ∧ LenOf w' q0 n), .d, .d, .d, .r (fun v w' => ∃ n : Nat, v = .int .i64 n ∧ LenOf w' q0 n), .d, .r (fun v w' => v = .bool false ∧ Full w.heap.size wr (w.heap.size + 1) 0 5 S0 O0 p0 q0 S1 O1 p1 q1 w'), .r (fun v w' => v = .bool false ∧ Full w.heap.size wr (w.heap.size + 1) 0 5 S0 O0 p0 q0 S1 O1 p1 q1 w'), .d, .d, .d, .r (fun v w' => ∃ n : Nat, v = .int .i64 n ∧ LenOf w' q1 n), .d, .d, .d, .r (fun v w' => ∃ n : Nat, v = .int .i64 n ∧ LenOf w' q1 n), .d, .d] (by kernel_rfl) (by kernel_rfl) (by kernel_rfl) (.inr fun _ _ => trivial) (OnD.late_dep (by kernel_rfl)) ?_
              simp only [List.take_succ_cons, List.take_zero, List.drop_succ_cons, List.drop_zero, Exs]
              iterate 22 apply Exists.intro
              apply OnD.Run.valG (.inr fun _ _ => trivial) (wanted_none rfl _)
              · intro w1 h1 hk
                go_simp; rfl
              simp only [Act.put, List.setIfInBounds_toArray, List.set_cons_succ, List.set_cons_zero, List.nil_append, List.cons_append]
              apply OnD.Run.valG (.inr fun _ _ => trivial) (wanted_none rfl _)
              · intro w1 h1 hk
                go_simp; rfl
              simp only [Act.put, List.setIfInBounds_toArray, List.set_cons_succ, List.set_cons_zero, List.nil_append, List.cons_append]
              apply OnD.Run.valG (.inr fun _ _ => trivial) (wanted_none rfl _)
              · intro w1 h1 hk
                go_simp; rfl
              simp only [Act.put, List.setIfInBounds_toArray, List.set_cons_succ, List.set_cons_zero, List.nil_append, List.cons_append]
              apply OnD.Run.valG (.inr fun _ _ => trivial) (wanted_none rfl _)
              · intro w1 h1 hk
                go_simp; rfl
              simp only [Act.put, List.setIfInBounds_toArray, List.set_cons_succ, List.set_cons_zero, List.nil_append, List.cons_append]
              apply OnD.Run.valG (.inr fun _ _ => trivial) (wanted_none rfl _)
              · intro w1 h1 hk
                go_simp; rfl
              simp only [Act.put, List.setIfInBounds_toArray, List.set_cons_succ, List.set_cons_zero, List.nil_append, List.cons_append]
              apply OnD.Run.valG (.inr fun _ _ => trivial) (wanted_none rfl _)
              · intro w1 h1 hk
                exact exec_load_Op _ rfl rfl (HOP.out.fut ((Fut.drew _).trans (show Fut _ _ from h1))) hro
              simp only [Act.put, List.setIfInBounds_toArray, List.set_cons_succ, List.set_cons_zero, List.nil_append, List.cons_append]
              apply OnD.Run.mutR (.inr fun _ _ => trivial) (wanted_none rfl _) (by intro v w w' hf hs; exact ⟨hs.1, hs.2.fut (show Fut _ _ from hf)⟩) (fun _ _ => by go_simp; exact ⟨rfl, rfl⟩)
              · intro w1 h1 hk
                have hg := (Fut.drew wr).trans (show Fut _ _ from h1); refine (does_all (HB0.out.fut hg) (by omega) (by omega) o hok (fun _ W' kv' f' t' h' => amid_any h' (by omega) (by omega) o hok)).mono ?_; intro e w' hd; obtain ⟨rfl, h2, h3⟩ := full_of (W := wr) hd (HB1.out.fut hg) hdisW hg.size (by omega); exact ⟨_, rfl, OnD.Eff.late h3, rfl, h2⟩
              intro v6
              simp only [Act.put, List.setIfInBounds_toArray, List.set_cons_succ, List.set_cons_zero, List.nil_append, List.cons_append]
              apply OnD.Run.valG (.inr fun _ _ => trivial) (wanted_none rfl _)
              · intro w1 h1 hk
                have f6 := Facts.get hk 0 rfl (by kernel_rfl)
                obtain ⟨rfl, _⟩ := f6; go_simp; rfl
              simp only [Act.put, List.setIfInBounds_toArray, List.set_cons_succ, List.set_cons_zero, List.nil_append, List.cons_append]
              apply OnD.Run.valR (.inr fun _ _ => trivial) (wanted_none rfl _) (by intro v w w' hf hs; exact ⟨hs.1, hs.2.fut (show Fut _ _ from hf)⟩)
              · intro w1 h1 hk
                have f6 := Facts.get hk 0 rfl (by kernel_rfl)
                obtain ⟨rfl, hFu⟩ := f6; exact ⟨.bool false, _, (by first | (go_simp; done) | (go_simp; rfl)), Fut.refl _, rfl, hFu⟩
              intro v8
              simp only [Act.put, List.setIfInBounds_toArray, List.set_cons_succ, List.set_cons_zero, List.nil_append, List.cons_append]
              apply OnD.Run.valF (.inr fun _ _ => trivial) 
              · intro w1 h1 hk
                have f8 := Facts.get hk 1 rfl (by kernel_rfl)
                obtain ⟨rfl, _⟩ := f8
                go_simp
              · intro w1 h1 hk
                have f8 := Facts.get hk 1 rfl (by kernel_rfl)
                go_simp; rfl
              simp only [Act.put, List.setIfInBounds_toArray, List.set_cons_succ, List.set_cons_zero, List.nil_append, List.cons_append]
              apply OnD.Run.valF (.inr fun _ _ => trivial) 
              · intro w1 h1 hk
                have f8 := Facts.get hk 1 rfl (by kernel_rfl)
                obtain ⟨rfl, _⟩ := f8
                go_simp
              · intro w1 h1 hk
                have f8 := Facts.get hk 1 rfl (by kernel_rfl)
                go_simp; rfl
              simp only [Act.put, List.setIfInBounds_toArray, List.set_cons_succ, List.set_cons_zero, List.nil_append, List.cons_append]
              apply OnD.Run.valF (.inr fun _ _ => trivial) 
              · intro w1 h1 hk
                have f8 := Facts.get hk 1 rfl (by kernel_rfl)
                obtain ⟨rfl, _⟩ := f8
                go_simp
              · intro w1 h1 hk
                have f8 := Facts.get hk 1 rfl (by kernel_rfl)
                obtain ⟨_, hFu⟩ := f8; have q0 : w1.cell? ⟨w.heap.size + 1, 0, none⟩ = some (.pointer p0) := hFu.k.1; go_simp; rfl
              simp only [Act.put, List.setIfInBounds_toArray, List.set_cons_succ, List.set_cons_zero, List.nil_append, List.cons_append]
              apply OnD.Run.callRF (.inr fun _ _ => trivial) (by intro v w w' hf hs; exact (by obtain ⟨n, h1, h2⟩ := hs; exact ⟨n, h1, h2.fut (show Fut _ _ from hf)⟩)) (fun _ _ => by go_simp; exact ⟨rfl, rfl⟩)
              · intro w1 h1 hk
                have f8 := Facts.get hk 1 rfl (by kernel_rfl)
                obtain ⟨rfl, _⟩ := f8
                go_simp
              · intro w1 h1 hk
                have f8 := Facts.get hk 1 rfl (by kernel_rfl)
                obtain ⟨_, hFu⟩ := f8; obtain ⟨S9, FT9, FD9, hT9, hD9⟩ := hFu.k.2.2; refine (T_len hT9).mono ?_; rintro e w' ⟨rfl, rfl⟩; exact ⟨_, rfl, Fut.refl _, _, rfl, lenOf hD9⟩
              intro v12
              simp only [Act.put, List.setIfInBounds_toArray, List.set_cons_succ, List.set_cons_zero, List.nil_append, List.cons_append]
              apply OnD.Run.valF (.inr fun _ _ => trivial) 
              · intro w1 h1 hk
                have f8 := Facts.get hk 1 rfl (by kernel_rfl)
                obtain ⟨rfl, _⟩ := f8
                go_simp
              · intro w1 h1 hk
                have f8 := Facts.get hk 1 rfl (by kernel_rfl)
                go_simp; rfl
              simp only [Act.put, List.setIfInBounds_toArray, List.set_cons_succ, List.set_cons_zero, List.nil_append, List.cons_append]
              apply OnD.Run.valF (.inr fun _ _ => trivial) 
              · intro w1 h1 hk
                have f8 := Facts.get hk 1 rfl (by kernel_rfl)
                obtain ⟨rfl, _⟩ := f8
                go_simp
              · intro w1 h1 hk
                have f8 := Facts.get hk 1 rfl (by kernel_rfl)
                go_simp; rfl
              simp only [Act.put, List.setIfInBounds_toArray, List.set_cons_succ, List.set_cons_zero, List.nil_append, List.cons_append]
              apply OnD.Run.valF (.inr fun _ _ => trivial) 
              · intro w1 h1 hk
                have f8 := Facts.get hk 1 rfl (by kernel_rfl)
                obtain ⟨rfl, _⟩ := f8
                go_simp
              · intro w1 h1 hk
                have f8 := Facts.get hk 1 rfl (by kernel_rfl)
                obtain ⟨_, hFu⟩ := f8; have q0 : w1.cell? ⟨w.heap.size + 1, 1, none⟩ = some (.pointer q0) := hFu.k.2.1; go_simp; rfl
              simp only [Act.put, List.setIfInBounds_toArray, List.set_cons_succ, List.set_cons_zero, List.nil_append, List.cons_append]
              apply OnD.Run.callRF (.inr fun _ _ => trivial) (by intro v w w' hf hs; exact (by obtain ⟨n, h1, h2⟩ := hs; exact ⟨n, h1, h2.fut (show Fut _ _ from hf)⟩)) (fun _ _ => by go_simp; exact ⟨rfl, rfl⟩)
              · intro w1 h1 hk
                have f8 := Facts.get hk 1 rfl (by kernel_rfl)
                have f12 := Facts.get hk 2 rfl (by kernel_rfl)
                obtain ⟨rfl, _⟩ := f8
                go_simp
              · intro w1 h1 hk
                have f8 := Facts.get hk 1 rfl (by kernel_rfl)
                have f12 := Facts.get hk 2 rfl (by kernel_rfl)
                obtain ⟨_, hFu⟩ := f8; obtain ⟨S9, FT9, FD9, hT9, hD9⟩ := hFu.k.2.2; refine (D_len hD9).mono ?_; rintro e w' ⟨rfl, rfl⟩; exact ⟨_, rfl, Fut.refl _, _, rfl, lenOf hD9⟩
              intro v16
              simp only [Act.put, List.setIfInBounds_toArray, List.set_cons_succ, List.set_cons_zero, List.nil_append, List.cons_append]
              apply OnD.Run.valF (.inr fun _ _ => trivial) 
              · intro w1 h1 hk
                have f8 := Facts.get hk 1 rfl (by kernel_rfl)
                have f12 := Facts.get hk 2 rfl (by kernel_rfl)
                have f16 := Facts.get hk 3 rfl (by kernel_rfl)
                obtain ⟨rfl, _⟩ := f8
                go_simp
              · intro w1 h1 hk
                have f8 := Facts.get hk 1 rfl (by kernel_rfl)
                have f12 := Facts.get hk 2 rfl (by kernel_rfl)
                have f16 := Facts.get hk 3 rfl (by kernel_rfl)
                obtain ⟨n, rfl, h7⟩ := f12; obtain ⟨m, rfl, h8⟩ := f16; obtain rfl := lenOf_one h7 h8; go_simp; rfl
              simp only [Act.put, List.setIfInBounds_toArray, List.set_cons_succ, List.set_cons_zero, List.nil_append, List.cons_append]
              apply OnD.Run.valR (.inr fun _ _ => trivial) (wanted_none rfl _) (by intro v w w' hf hs; exact ⟨hs.1, hs.2.fut (show Fut _ _ from hf)⟩)
              · intro w1 h1 hk
                have f8 := Facts.get hk 1 rfl (by kernel_rfl)
                obtain ⟨rfl, hFu⟩ := f8; exact ⟨.bool false, _, (by first | (go_simp; done) | (go_simp; rfl)), Fut.refl _, rfl, hFu⟩
              intro v18
              simp only [Act.put, List.setIfInBounds_toArray, List.set_cons_succ, List.set_cons_zero, List.nil_append, List.cons_append]
              apply OnD.Run.valR (.inr fun _ _ => trivial) (wanted_none rfl _) (by intro v w w' hf hs; exact ⟨hs.1, hs.2.fut (show Fut _ _ from hf)⟩)
              · intro w1 h1 hk
                have f16 := Facts.get hk 3 rfl (by kernel_rfl)
                have f18 := Facts.get hk 4 rfl (by kernel_rfl)
                obtain ⟨rfl, hFu⟩ := f18; exact ⟨.bool false, _, (by first | (go_simp; done) | (go_simp; rfl)), Fut.refl _, rfl, hFu⟩
              intro v19
              simp only [Act.put, List.setIfInBounds_toArray, List.set_cons_succ, List.set_cons_zero, List.nil_append, List.cons_append]
              apply OnD.Run.valF (.inr fun _ _ => trivial) 
              · intro w1 h1 hk
                have f19 := Facts.get hk 5 rfl (by kernel_rfl)
                obtain ⟨rfl, _⟩ := f19
                go_simp
              · intro w1 h1 hk
                have f19 := Facts.get hk 5 rfl (by kernel_rfl)
                go_simp; rfl
              simp only [Act.put, List.setIfInBounds_toArray, List.set_cons_succ, List.set_cons_zero, List.nil_append, List.cons_append]
              apply OnD.Run.valF (.inr fun _ _ => trivial) 
              · intro w1 h1 hk
                have f19 := Facts.get hk 5 rfl (by kernel_rfl)
                obtain ⟨rfl, _⟩ := f19
                go_simp
              · intro w1 h1 hk
                have f19 := Facts.get hk 5 rfl (by kernel_rfl)
                go_simp; rfl
              simp only [Act.put, List.setIfInBounds_toArray, List.set_cons_succ, List.set_cons_zero, List.nil_append, List.cons_append]
              apply OnD.Run.valF (.inr fun _ _ => trivial) 
              · intro w1 h1 hk
                have f19 := Facts.get hk 5 rfl (by kernel_rfl)
                obtain ⟨rfl, _⟩ := f19
                go_simp
              · intro w1 h1 hk
                have f19 := Facts.get hk 5 rfl (by kernel_rfl)
                obtain ⟨_, hFu⟩ := f19; have q0 : w1.cell? ⟨w.heap.size + 1, 5, none⟩ = some (.pointer p1) := hFu.o.1; go_simp; rfl
              simp only [Act.put, List.setIfInBounds_toArray, List.set_cons_succ, List.set_cons_zero, List.nil_append, List.cons_append]
              apply OnD.Run.callRF (.inr fun _ _ => trivial) (by intro v w w' hf hs; exact (by obtain ⟨n, h1, h2⟩ := hs; exact ⟨n, h1, h2.fut (show Fut _ _ from hf)⟩)) (fun _ _ => by go_simp; exact ⟨rfl, rfl⟩)
              · intro w1 h1 hk
                have f19 := Facts.get hk 5 rfl (by kernel_rfl)
                obtain ⟨rfl, _⟩ := f19
                go_simp
              · intro w1 h1 hk
                have f19 := Facts.get hk 5 rfl (by kernel_rfl)
                obtain ⟨_, hFu⟩ := f19; obtain ⟨S9, FT9, FD9, hT9, hD9⟩ := hFu.o.2.2; refine (T_len hT9).mono ?_; rintro e w' ⟨rfl, rfl⟩; exact ⟨_, rfl, Fut.refl _, _, rfl, lenOf hD9⟩
              intro v23
              simp only [Act.put, List.setIfInBounds_toArray, List.set_cons_succ, List.set_cons_zero, List.nil_append, List.cons_append]
              apply OnD.Run.valF (.inr fun _ _ => trivial) 
              · intro w1 h1 hk
                have f19 := Facts.get hk 5 rfl (by kernel_rfl)
                obtain ⟨rfl, _⟩ := f19
                go_simp
              · intro w1 h1 hk
                have f19 := Facts.get hk 5 rfl (by kernel_rfl)
                go_simp; rfl
              simp only [Act.put, List.setIfInBounds_toArray, List.set_cons_succ, List.set_cons_zero, List.nil_append, List.cons_append]
              apply OnD.Run.valF (.inr fun _ _ => trivial) 
              · intro w1 h1 hk
                have f19 := Facts.get hk 5 rfl (by kernel_rfl)
                obtain ⟨rfl, _⟩ := f19
                go_simp
              · intro w1 h1 hk
                have f19 := Facts.get hk 5 rfl (by kernel_rfl)
                go_simp; rfl
              simp only [Act.put, List.setIfInBounds_toArray, List.set_cons_succ, List.set_cons_zero, List.nil_append, List.cons_append]
              apply OnD.Run.valF (.inr fun _ _ => trivial) 
              · intro w1 h1 hk
                have f19 := Facts.get hk 5 rfl (by kernel_rfl)
                obtain ⟨rfl, _⟩ := f19
                go_simp
              · intro w1 h1 hk
                have f19 := Facts.get hk 5 rfl (by kernel_rfl)
                obtain ⟨_, hFu⟩ := f19; have q0 : w1.cell? ⟨w.heap.size + 1, 6, none⟩ = some (.pointer q1) := hFu.o.2.1; go_simp; rfl
              simp only [Act.put, List.setIfInBounds_toArray, List.set_cons_succ, List.set_cons_zero, List.nil_append, List.cons_append]
              apply OnD.Run.callRF (.inr fun _ _ => trivial) (by intro v w w' hf hs; exact (by obtain ⟨n, h1, h2⟩ := hs; exact ⟨n, h1, h2.fut (show Fut _ _ from hf)⟩)) (fun _ _ => by go_simp; exact ⟨rfl, rfl⟩)
              · intro w1 h1 hk
                have f19 := Facts.get hk 5 rfl (by kernel_rfl)
                have f23 := Facts.get hk 6 rfl (by kernel_rfl)
                obtain ⟨rfl, _⟩ := f19
                go_simp
              · intro w1 h1 hk
                have f19 := Facts.get hk 5 rfl (by kernel_rfl)
                have f23 := Facts.get hk 6 rfl (by kernel_rfl)
                obtain ⟨_, hFu⟩ := f19; obtain ⟨S9, FT9, FD9, hT9, hD9⟩ := hFu.o.2.2; refine (D_len hD9).mono ?_; rintro e w' ⟨rfl, rfl⟩; exact ⟨_, rfl, Fut.refl _, _, rfl, lenOf hD9⟩
              intro v27
              simp only [Act.put, List.setIfInBounds_toArray, List.set_cons_succ, List.set_cons_zero, List.nil_append, List.cons_append]
              apply OnD.Run.valF (.inr fun _ _ => trivial) 
              · intro w1 h1 hk
                have f19 := Facts.get hk 5 rfl (by kernel_rfl)
                have f23 := Facts.get hk 6 rfl (by kernel_rfl)
                have f27 := Facts.get hk 7 rfl (by kernel_rfl)
                obtain ⟨rfl, _⟩ := f19
                go_simp
              · intro w1 h1 hk
                have f19 := Facts.get hk 5 rfl (by kernel_rfl)
                have f23 := Facts.get hk 6 rfl (by kernel_rfl)
                have f27 := Facts.get hk 7 rfl (by kernel_rfl)
                obtain ⟨n, rfl, h7⟩ := f23; obtain ⟨m, rfl, h8⟩ := f27; obtain rfl := lenOf_one h7 h8; go_simp; rfl
              simp only [Act.put, List.setIfInBounds_toArray, List.set_cons_succ, List.set_cons_zero, List.nil_append, List.cons_append]
              apply OnD.Run.valG (.inr fun _ _ => trivial) (wanted_none rfl _)
              · intro w1 h1 hk
                have f19 := Facts.get hk 5 rfl (by kernel_rfl)
                obtain ⟨rfl, _⟩ := f19; go_simp; rfl
              simp only [Act.put, List.setIfInBounds_toArray, List.set_cons_succ, List.set_cons_zero, List.nil_append, List.cons_append]
              apply OnD.Run.done
              intro w6 h6 hk hJ
              obtain ⟨f6, f8, f12, f16, f18, f19, f23, f27, _⟩ := hk
              obtain ⟨_, ⟨S', O', kv', x', t', FT', FD', hBn, hrn, hgn, hOn⟩, kv9, x9, t9, FT9, FD9, hBo⟩ := f19
              have hO6 : Only (fun j => O0 j ∨ j = w.heap.size + 1) wr w6 := (Only.fut (Fut.drew _)).trans (show Only (fun j => O0 j ∨ j = w.heap.size + 1) _ _ from h6)
              have hF6 : Fut w w6 := ((Only.fut hFW).trans (hO6.mono (S' := fun j => w.heap.size ≤ j) fun j _ hj => hj.elim (hgeK j) fun e => by omega)).toFut fun j hj => hj
              clear i6 h6 hJ f6 f8 f12 f16 f18 f23 f27
              have HBn := Lib.hid hBn
              have HBo' := Lib.hid hBo
              have hdn : ∀ j, O' j → ¬ O1 j := fun j hj hk => (hOn j hj).elim (fun h => hdisW j h hk) fun h => by have := hltO j hk; omega
              have hgn2 : ∀ j, O' j → w.heap.size ≤ j := fun j hj => (hOn j hj).elim (hgeK j) fun h => by omega
              clear hBn hBo hO6
              go_wp2
              go_roundw
              case rel => exact ⟨k + 1, by omega, by go_num, Lib.hid ⟨hF6, _, _, ⟨O', p0, q0, kv', x', t', FT', FD', O1, p1, q1, kv9, x9, t9, FT9, FD9, HBn.out, HBo'.out, hdn, fun j hj => hj.elim (hgn2 j) (hgeO j)⟩, by omega, by omega, by omega, by omega⟩⟩
              case measure => simp [intOf] <;> omega
          · have cK0 : wr.cell? ⟨w.heap.size + 1, 5, none⟩ = some (.pointer p1) := HB1.out.cell.1
            have cK1 : wr.cell? ⟨w.heap.size + 1, 6, none⟩ = some (.pointer q1) := HB1.out.cell.2.1
            by_cases hk11 : o.kind = 11
            · go_wp2_with fail
              letI i1 : OnL.Mut := OnL.Mut.link 11 77 82 (Linked w.heap.size wr S1) fun hf hk => Linked.fut hk hf
              refine OnL.wp_graph 13 [.d, .d, .d, .d, .d, .d, .r (fun v w' => ClT w.heap.size wr S1 v w'), .d, .d, .d, .d, .r (fun v w => True), .r (fun v w' => Joined w.heap.size wr S1 v w')] (by kernel_rfl) (by kernel_rfl) (by kernel_rfl) (.inl (by kernel_rfl)) OnL.link_dep ?_
              simp only [List.take_succ_cons, List.take_zero, List.drop_succ_cons, List.drop_zero, Exs]
              iterate 10 apply Exists.intro
              apply OnL.Run.valG (.inl (Nat.ne_of_beq_eq_false rfl)) (wanted_none rfl _)
              · intro w1 h1 hk
                replace h1 : Fut _ _ := h1
                have hg := (Fut.drew _).trans h1; have q0 := h1.cell cK0; have q1 := h1.cell cK1
                go_simp; rfl
              simp only [Act.put, List.setIfInBounds_toArray, List.set_cons_succ, List.set_cons_zero, List.nil_append, List.cons_append]
              apply OnL.Run.valG (.inl (Nat.ne_of_beq_eq_false rfl)) (wanted_none rfl _)
              · intro w1 h1 hk
                replace h1 : Fut _ _ := h1
                have hg := (Fut.drew _).trans h1; have q0 := h1.cell cK0; have q1 := h1.cell cK1
                go_simp; rfl
              simp only [Act.put, List.setIfInBounds_toArray, List.set_cons_succ, List.set_cons_zero, List.nil_append, List.cons_append]
              apply OnL.Run.valG (.inl (Nat.ne_of_beq_eq_false rfl)) (wanted_none rfl _)
              · intro w1 h1 hk
                replace h1 : Fut _ _ := h1
                have hg := (Fut.drew _).trans h1; have q0 := h1.cell cK0; have q1 := h1.cell cK1
                go_simp; rfl
              simp only [Act.put, List.setIfInBounds_toArray, List.set_cons_succ, List.set_cons_zero, List.nil_append, List.cons_append]
              apply OnL.Run.valG (.inl (Nat.ne_of_beq_eq_false rfl)) (wanted_none rfl _)
              · intro w1 h1 hk
                replace h1 : Fut _ _ := h1
                have hg := (Fut.drew _).trans h1; have q0 := h1.cell cK0; have q1 := h1.cell cK1
                go_simp; rfl
              simp only [Act.put, List.setIfInBounds_toArray, List.set_cons_succ, List.set_cons_zero, List.nil_append, List.cons_append]
              apply OnL.Run.valG (.inl (Nat.ne_of_beq_eq_false rfl)) (wanted_none rfl _)
              · intro w1 h1 hk
                replace h1 : Fut _ _ := h1
                have hg := (Fut.drew _).trans h1; have q0 := h1.cell cK0; have q1 := h1.cell cK1
                go_simp; rfl
              simp only [Act.put, List.setIfInBounds_toArray, List.set_cons_succ, List.set_cons_zero, List.nil_append, List.cons_append]
              apply OnL.Run.valG (.inl (Nat.ne_of_beq_eq_false rfl)) (wanted_none rfl _)
              · intro w1 h1 hk
                replace h1 : Fut _ _ := h1
                have hg := (Fut.drew _).trans h1; have q0 := h1.cell cK0; have q1 := h1.cell cK1
                go_simp; rfl
              simp only [Act.put, List.setIfInBounds_toArray, List.set_cons_succ, List.set_cons_zero, List.nil_append, List.cons_append]
              apply OnL.Run.callR (.inl (Nat.ne_of_beq_eq_false rfl)) (wanted_none rfl _) (by intro v w w' hf hs; replace hf : Fut _ _ := hf; exact ClT.fut hs hf) (fun _ _ => by go_simp; exact ⟨rfl, rfl⟩)
              · intro w1 h1 hk
                replace h1 : Fut _ _ := h1
                have hg := (Fut.drew _).trans h1; have q0 := h1.cell cK0; have q1 := h1.cell cK1
                refine (T_clone (HB1.out.fut hg).T (by omega)).mono ?_; rintro e w' ⟨p', rfl, hT, hn, hf⟩; exact ⟨_, rfl, hf, clT_of hT hg.size (HB1.out.fut hg).base hn⟩
              intro v6
              simp only [Act.put, List.setIfInBounds_toArray, List.set_cons_succ, List.set_cons_zero, List.nil_append, List.cons_append]
              apply OnL.Run.valG (.inl (Nat.ne_of_beq_eq_false rfl)) (wanted_none rfl _)
              · intro w1 h1 hk
                replace h1 : Fut _ _ := h1
                have hg := (Fut.drew _).trans h1; have q0 := h1.cell cK0; have q1 := h1.cell cK1
                go_simp; rfl
              simp only [Act.put, List.setIfInBounds_toArray, List.set_cons_succ, List.set_cons_zero, List.nil_append, List.cons_append]
              apply OnL.Run.valG (.inl (Nat.ne_of_beq_eq_false rfl)) (wanted_none rfl _)
              · intro w1 h1 hk
                replace h1 : Fut _ _ := h1
                have hg := (Fut.drew _).trans h1; have q0 := h1.cell cK0; have q1 := h1.cell cK1
                go_simp; rfl
              simp only [Act.put, List.setIfInBounds_toArray, List.set_cons_succ, List.set_cons_zero, List.nil_append, List.cons_append]
              apply OnL.Run.valG (.inl (Nat.ne_of_beq_eq_false rfl)) (wanted_none rfl _)
              · intro w1 h1 hk
                replace h1 : Fut _ _ := h1
                have hg := (Fut.drew _).trans h1; have q0 := h1.cell cK0; have q1 := h1.cell cK1
                go_simp; rfl
              simp only [Act.put, List.setIfInBounds_toArray, List.set_cons_succ, List.set_cons_zero, List.nil_append, List.cons_append]
              apply OnL.Run.valG (.inl (Nat.ne_of_beq_eq_false rfl)) (wanted_none rfl _)
              · intro w1 h1 hk
                replace h1 : Fut _ _ := h1
                have hg := (Fut.drew _).trans h1; have q0 := h1.cell cK0; have q1 := h1.cell cK1
                go_simp; rfl
              simp only [Act.put, List.setIfInBounds_toArray, List.set_cons_succ, List.set_cons_zero, List.nil_append, List.cons_append]
              apply OnL.Run.linkR (wanted_none rfl _) (by intro v w w' hf hs; replace hf : Fut _ _ := hf; exact trivial) (fun _ _ => by go_simp; exact ⟨rfl, rfl⟩)
              · intro w1 h1 hk
                replace h1 : Fut _ _ := h1
                have f6 := Facts.get hk 0 rfl (by kernel_rfl)
                have hg := (Fut.drew _).trans h1; have q0 := h1.cell cK0; have q1 := h1.cell cK1
                refine (D_clone (HB1.out.fut hg).D (by omega)).mono ?_; rintro e w' ⟨q', rfl, hD, hn, hf⟩; exact ⟨_, rfl, hf, linked_of f6 hD hf hg.size (HB1.out.fut hg).base hn, trivial⟩
              intro v11
              simp only [Act.put, List.setIfInBounds_toArray, List.set_cons_succ, List.set_cons_zero, List.nil_append, List.cons_append]
              apply OnL.Run.joinR (.inl (Nat.ne_of_beq_eq_false rfl)) (by kernel_rfl) (wanted_none rfl _) (by intro v w w' hf hs; replace hf : Fut _ _ := hf; exact Joined.fut hs hf)
              · intro w1 h1 hk hJ
                replace h1 : Fut _ _ := h1
                have f6 := Facts.get hk 0 rfl (by kernel_rfl)
                have f11 := Facts.get hk 1 rfl (by kernel_rfl)
                have hg := (Fut.drew _).trans h1; have q0 := h1.cell cK0; have q1 := h1.cell cK1
                obtain ⟨p', q', G1, G2, e1, e2, hP⟩ := (show Linked w.heap.size wr S1 _ _ _ from hJ); exact ⟨_, _, exec_build_both rfl e1 e2, Fut.refl _, p', q', G1, G2, rfl, hP⟩
              intro v12
              simp only [Act.put, List.setIfInBounds_toArray, List.set_cons_succ, List.set_cons_zero, List.nil_append, List.cons_append]
              apply OnL.Run.done
              intro w3 h3 hk hJ
              obtain ⟨f6, f11, f12, _⟩ := hk
              replace h3 : Fut _ _ := h3
              clear i1 hJ f11 f6
              obtain ⟨p2, q2, G1, G2, rfl, hP2⟩ := f12
              have g3 := (Fut.drew _).trans h3
              obtain ⟨arr, ty, hL, hsz⟩ := (HB0.out.fut g3).room
              have HP2 := Lib.hid hP2
              clear h3 hP2
              go_wp2_with (first | (refine wpList_store_bothM (wanted_none rfl _) _ _ rfl rfl rfl hL hsz ?_; intro arr' harr'))
              have OS : Only (fun j => j = w.heap.size + 1) w3 (w3.putObj (w.heap.size + 1) (.cells arr' ty (0, 0))) := Only.put _ _ rfl
              have s3 := g3.size
              have sS := OS.size
              have HNew := Lib.hid (both_ofM (b := w.heap.size + 1) (t := ty) (off := 0) HP2.out hbb g3.size (by omega) harr')
              have HOld := Lib.hid ((HB1.out.fut g3).beside (G := fun _ => False) (lo := 0) (hi := 0 + 5) (OS.mono fun j _ hj => .inr hj) (fun _ _ h => h) (same_put hL harr') (by omega))
              have HOP4 := Lib.hid ((HOP.out.fut g3).only OS (by show ¬ gb = w.heap.size + 1; omega))
              have hF4 := ((Only.fut (hF.trans g3)).trans (OS.mono (S' := fun j => w.heap.size ≤ j) fun j _ hj => by have hj' : j = w.heap.size + 1 := hj; omega)).toFut fun j hj => hj
              have hge2 : ∀ j, G1 j ∨ G2 j → wr.heap.size ≤ j := fun j hj => (HP2.out.2.2.2.1 j hj).1
              have hpq : p2.isNone = q2.isNone := by
                have h5 := HP2.out.2.2.2.2
                cases p2 <;> cases q2 <;> first | rfl | (simp at h5; done) | (simp at h5; simp_all)
              obtain ⟨dn, hdn0⟩ : ∃ d, p2.isNone = d := ⟨_, rfl⟩
              rw [hdn0] at hpq
              replace hpq := hpq.symm
              obtain ⟨W4, hW4⟩ : ∃ W, w3.putObj (w.heap.size + 1) (.cells arr' ty (0, 0)) = W := ⟨_, rfl⟩
              rw [hW4] at HNew HOld HOP4 hF4 sS OS ⊢
              clear hW4 OS hL harr' HP2
              have d0 : W4.cell? ⟨w.heap.size + 1, 0, none⟩ = some (.pointer p2) := HNew.out.cell.1
              have d1 : W4.cell? ⟨w.heap.size + 1, 1, none⟩ = some (.pointer q2) := HNew.out.cell.2.1
              refine wp_graph 13 [.d, .d, .d, .d, .d, .d, .d, .d, .d, .d, .d, .d, .d] (by kernel_rfl) (by kernel_rfl) (by kernel_rfl) ?_
              simp only [List.take_succ_cons, List.take_zero, List.drop_succ_cons, List.drop_zero, Exs]
              iterate 13 apply Exists.intro
              apply Run.valG (wanted_none rfl _)
              · intro w1 h1 hk
                have q0 := h1.cell d0; have q1 := h1.cell d1
                have hcw := fun b o => Below.cell (p := ⟨b, o, none⟩) h1
                go_simp; rfl
              simp only [Act.put, List.setIfInBounds_toArray, List.set_cons_succ, List.set_cons_zero, List.nil_append, List.cons_append]
              apply Run.valG (wanted_none rfl _)
              · intro w1 h1 hk
                have q0 := h1.cell d0; have q1 := h1.cell d1
                have hcw := fun b o => Below.cell (p := ⟨b, o, none⟩) h1
                go_simp; rfl
              simp only [Act.put, List.setIfInBounds_toArray, List.set_cons_succ, List.set_cons_zero, List.nil_append, List.cons_append]
              apply Run.valG (wanted_none rfl _)
              · intro w1 h1 hk
                have q0 := h1.cell d0; have q1 := h1.cell d1
                have hcw := fun b o => Below.cell (p := ⟨b, o, none⟩) h1
                go_simp; rfl
              simp only [Act.put, List.setIfInBounds_toArray, List.set_cons_succ, List.set_cons_zero, List.nil_append, List.cons_append]
              apply Run.valG (wanted_none rfl _)
              · intro w1 h1 hk
                have q0 := h1.cell d0; have q1 := h1.cell d1
                have hcw := fun b o => Below.cell (p := ⟨b, o, none⟩) h1
                go_simp; rfl
              simp only [Act.put, List.setIfInBounds_toArray, List.set_cons_succ, List.set_cons_zero, List.nil_append, List.cons_append]
              apply Run.valG (wanted_none rfl _)
              · intro w1 h1 hk
                have q0 := h1.cell d0; have q1 := h1.cell d1
                have hcw := fun b o => Below.cell (p := ⟨b, o, none⟩) h1
                go_simp; rfl
              simp only [Act.put, List.setIfInBounds_toArray, List.set_cons_succ, List.set_cons_zero, List.nil_append, List.cons_append]
              apply Run.valG (wanted_none rfl _)
              · intro w1 h1 hk
                have q0 := h1.cell d0; have q1 := h1.cell d1
                have hcw := fun b o => Below.cell (p := ⟨b, o, none⟩) h1
                go_simp; rfl
              simp only [Act.put, List.setIfInBounds_toArray, List.set_cons_succ, List.set_cons_zero, List.nil_append, List.cons_append]
              apply Run.valG (wanted_none rfl _)
              · intro w1 h1 hk
                have q0 := h1.cell d0; have q1 := h1.cell d1
                have hcw := fun b o => Below.cell (p := ⟨b, o, none⟩) h1
                go_simp; rfl
              simp only [Act.put, List.setIfInBounds_toArray, List.set_cons_succ, List.set_cons_zero, List.nil_append, List.cons_append]
              apply Run.valG (wanted_none rfl _)
              · intro w1 h1 hk
                have q0 := h1.cell d0; have q1 := h1.cell d1
                have hcw := fun b o => Below.cell (p := ⟨b, o, none⟩) h1
                go_simp; rfl
              simp only [Act.put, List.setIfInBounds_toArray, List.set_cons_succ, List.set_cons_zero, List.nil_append, List.cons_append]
              apply Run.valG (wanted_none rfl _)
              · intro w1 h1 hk
                have q0 := h1.cell d0; have q1 := h1.cell d1
                have hcw := fun b o => Below.cell (p := ⟨b, o, none⟩) h1
                go_simp; rfl
              simp only [Act.put, List.setIfInBounds_toArray, List.set_cons_succ, List.set_cons_zero, List.nil_append, List.cons_append]
              apply Run.valG (wanted_none rfl _)
              · intro w1 h1 hk
                have q0 := h1.cell d0; have q1 := h1.cell d1
                have hcw := fun b o => Below.cell (p := ⟨b, o, none⟩) h1
                go_simp; rfl
              simp only [Act.put, List.setIfInBounds_toArray, List.set_cons_succ, List.set_cons_zero, List.nil_append, List.cons_append]
              apply Run.valG (wanted_none rfl _)
              · intro w1 h1 hk
                have q0 := h1.cell d0; have q1 := h1.cell d1
                have hcw := fun b o => Below.cell (p := ⟨b, o, none⟩) h1
                go_simp; rfl
              simp only [Act.put, List.setIfInBounds_toArray, List.set_cons_succ, List.set_cons_zero, List.nil_append, List.cons_append]
              apply Run.valG (wanted_none rfl _)
              · intro w1 h1 hk
                have q0 := h1.cell d0; have q1 := h1.cell d1
                have hcw := fun b o => Below.cell (p := ⟨b, o, none⟩) h1
                go_simp; rfl
              simp only [Act.put, List.setIfInBounds_toArray, List.set_cons_succ, List.set_cons_zero, List.nil_append, List.cons_append]
              apply Run.valG (wanted_none rfl _)
              · intro w1 h1 hk
                have q0 := h1.cell d0; have q1 := h1.cell d1
                have hcw := fun b o => Below.cell (p := ⟨b, o, none⟩) h1
                go_simp; rfl
              simp only [Act.put, List.setIfInBounds_toArray, List.set_cons_succ, List.set_cons_zero, List.nil_append, List.cons_append]
              apply Run.done
              intro w5 h5 hk
              clear hk
              have g5 := (Fut.drew _).trans h5
              have hFW := hF4.trans g5
              have HK := Lib.hid (HOld.out.fut g5)
              have HO := Lib.hid (HNew.out.fut g5)
              have HOPW := Lib.hid (HOP4.out.fut g5)
              have s5 := g5.size
              have hdisW : ∀ j, O1 j → ¬ (G1 j ∨ G2 j) := fun j hj hk => by have := hlt1 j hj; have := hge2 j hk; omega
              have hgeK := hge1
              have hgeO : ∀ j, G1 j ∨ G2 j → w.heap.size ≤ j := fun j hj => by have := hge2 j hj; omega
              have hltO : ∀ j, G1 j ∨ G2 j → j < w5.heap.size := HO.out.lt
              have hrc : (rowsS (cloneS S1)).length ≤ k := by rw [rows_clone]; exact hr1
              have hgc : goneS (cloneS S1) ≤ k := by rw [gone_clone]; exact Nat.zero_le _
              clear h5 g5 hF4 HNew HOld HOP4 d0 d1 cK0 cK1 HB0 HB1 HOP g3
              go_wp2_with fail
              letI i6 : OnD.Mut := OnD.Mut.late 6 (Only fun j => O1 j ∨ j = w.heap.size + 1) Only.fut Only.trans
              refine OnD.wp_graph 30 [.d, .d, .d, .d, .d, .d, .r (fun v w' => v = .bool true ∧ Full w.heap.size w5 (w.heap.size + 1) 5 0 S1 O1 p1 q1 (cloneS S1) (fun j => G1 j ∨ G2 j) p2 q2 w'), .d, .r (fun v w' => v = .bool false ∧ Full w.heap.size w5 (w.heap.size + 1) 5 0 S1 O1 p1 q1 (cloneS S1) (fun j => G1 j ∨ G2 j) p2 q2 w'), .d, .d, .d, .r (fun v w' => ∃ n : Nat, v = .int .i64 n ∧ LenOf w' q2 n), .d, .d, .d, .r (fun v w' => ∃ n : Nat, v = .int .i64 n ∧ LenOf w' q2 n), .d, .r (fun v w' => v = .bool false ∧ Full w.heap.size w5 (w.heap.size + 1) 5 0 S1 O1 p1 q1 (cloneS S1) (fun j => G1 j ∨ G2 j) p2 q2 w'), .r (fun v w' => v = .bool false ∧ Full w.heap.size w5 (w.heap.size + 1) 5 0 S1 O1 p1 q1 (cloneS S1) (fun j => G1 j ∨ G2 j) p2 q2 w'), .d, .d, .d, .r (fun v w' => ∃ n : Nat, v = .int .i64 n ∧ LenOf w' q1 n), .d, .d, .d, .r (fun v w' => ∃ n : Nat, v = .int .i64 n ∧ LenOf w' q1 n), .d, .d] (by kernel_rfl) (by kernel_rfl) (by kernel_rfl) (.inr fun _ _ => trivial) (OnD.late_dep (by kernel_rfl)) ?_
              simp only [List.take_succ_cons, List.take_zero, List.drop_succ_cons, List.drop_zero, Exs]
              iterate 22 apply Exists.intro
              apply OnD.Run.valG (.inr fun _ _ => trivial) (wanted_none rfl _)
              · intro w1 h1 hk
                go_simp; rfl
              simp only [Act.put, List.setIfInBounds_toArray, List.set_cons_succ, List.set_cons_zero, List.nil_append, List.cons_append]
              apply OnD.Run.valG (.inr fun _ _ => trivial) (wanted_none rfl _)
              · intro w1 h1 hk
                go_simp; rfl
              simp only [Act.put, List.setIfInBounds_toArray, List.set_cons_succ, List.set_cons_zero, List.nil_append, List.cons_append]
              apply OnD.Run.valG (.inr fun _ _ => trivial) (wanted_none rfl _)
              · intro w1 h1 hk
                go_simp; rfl
              simp only [Act.put, List.setIfInBounds_toArray, List.set_cons_succ, List.set_cons_zero, List.nil_append, List.cons_append]
              apply OnD.Run.valG (.inr fun _ _ => trivial) (wanted_none rfl _)
              · intro w1 h1 hk
                go_simp; rfl
              simp only [Act.put, List.setIfInBounds_toArray, List.set_cons_succ, List.set_cons_zero, List.nil_append, List.cons_append]
              apply OnD.Run.valG (.inr fun _ _ => trivial) (wanted_none rfl _)
              · intro w1 h1 hk
                go_simp; rfl
              simp only [Act.put, List.setIfInBounds_toArray, List.set_cons_succ, List.set_cons_zero, List.nil_append, List.cons_append]
              apply OnD.Run.valG (.inr fun _ _ => trivial) (wanted_none rfl _)
              · intro w1 h1 hk
                exact exec_load_Op _ rfl rfl (HOPW.out.fut ((Fut.drew _).trans (show Fut _ _ from h1))) hro
              simp only [Act.put, List.setIfInBounds_toArray, List.set_cons_succ, List.set_cons_zero, List.nil_append, List.cons_append]
              apply OnD.Run.mutR (.inr fun _ _ => trivial) (wanted_none rfl _) (by intro v w w' hf hs; exact ⟨hs.1, hs.2.fut (show Fut _ _ from hf)⟩) (fun _ _ => by go_simp; exact ⟨rfl, rfl⟩)
              · intro w1 h1 hk
                have hg := (Fut.drew w5).trans (show Fut _ _ from h1); refine (does_all (HK.out.fut hg) (by omega) (by omega) o hok (fun _ W' kv' f' t' h' => amid_any h' (by omega) (by omega) o hok)).mono ?_; intro e w' hd; obtain ⟨rfl, h2, h3⟩ := full_of (W := w5) hd (HO.out.fut hg) hdisW hg.size (by omega); exact ⟨_, rfl, OnD.Eff.late h3, rfl, h2⟩
              intro v6
              simp only [Act.put, List.setIfInBounds_toArray, List.set_cons_succ, List.set_cons_zero, List.nil_append, List.cons_append]
              apply OnD.Run.valG (.inr fun _ _ => trivial) (wanted_none rfl _)
              · intro w1 h1 hk
                have f6 := Facts.get hk 0 rfl (by kernel_rfl)
                obtain ⟨rfl, _⟩ := f6; go_simp; rfl
              simp only [Act.put, List.setIfInBounds_toArray, List.set_cons_succ, List.set_cons_zero, List.nil_append, List.cons_append]
              apply OnD.Run.valR (.inr fun _ _ => trivial) (wanted_none rfl _) (by intro v w w' hf hs; exact ⟨hs.1, hs.2.fut (show Fut _ _ from hf)⟩)
              · intro w1 h1 hk
                have f6 := Facts.get hk 0 rfl (by kernel_rfl)
                obtain ⟨rfl, hFu⟩ := f6; exact ⟨.bool false, _, (by first | (go_simp; done) | (go_simp; rfl)), Fut.refl _, rfl, hFu⟩
              intro v8
              simp only [Act.put, List.setIfInBounds_toArray, List.set_cons_succ, List.set_cons_zero, List.nil_append, List.cons_append]
              apply OnD.Run.valF (.inr fun _ _ => trivial) 
              · intro w1 h1 hk
                have f8 := Facts.get hk 1 rfl (by kernel_rfl)
                obtain ⟨rfl, _⟩ := f8
                go_simp
              · intro w1 h1 hk
                have f8 := Facts.get hk 1 rfl (by kernel_rfl)
                go_simp; rfl
              simp only [Act.put, List.setIfInBounds_toArray, List.set_cons_succ, List.set_cons_zero, List.nil_append, List.cons_append]
              apply OnD.Run.valF (.inr fun _ _ => trivial) 
              · intro w1 h1 hk
                have f8 := Facts.get hk 1 rfl (by kernel_rfl)
                obtain ⟨rfl, _⟩ := f8
                go_simp
              · intro w1 h1 hk
                have f8 := Facts.get hk 1 rfl (by kernel_rfl)
                go_simp; rfl
              simp only [Act.put, List.setIfInBounds_toArray, List.set_cons_succ, List.set_cons_zero, List.nil_append, List.cons_append]
              apply OnD.Run.valF (.inr fun _ _ => trivial) 
              · intro w1 h1 hk
                have f8 := Facts.get hk 1 rfl (by kernel_rfl)
                obtain ⟨rfl, _⟩ := f8
                go_simp
              · intro w1 h1 hk
                have f8 := Facts.get hk 1 rfl (by kernel_rfl)
                obtain ⟨_, hFu⟩ := f8; have q0 : w1.cell? ⟨w.heap.size + 1, 0, none⟩ = some (.pointer p2) := hFu.o.1; go_simp; rfl
              simp only [Act.put, List.setIfInBounds_toArray, List.set_cons_succ, List.set_cons_zero, List.nil_append, List.cons_append]
              apply OnD.Run.callRF (.inr fun _ _ => trivial) (by intro v w w' hf hs; exact (by obtain ⟨n, h1, h2⟩ := hs; exact ⟨n, h1, h2.fut (show Fut _ _ from hf)⟩)) (fun _ _ => by go_simp; exact ⟨rfl, rfl⟩)
              · intro w1 h1 hk
                have f8 := Facts.get hk 1 rfl (by kernel_rfl)
                obtain ⟨rfl, _⟩ := f8
                go_simp
              · intro w1 h1 hk
                have f8 := Facts.get hk 1 rfl (by kernel_rfl)
                obtain ⟨_, hFu⟩ := f8; obtain ⟨S9, FT9, FD9, hT9, hD9⟩ := hFu.o.2.2; refine (T_len hT9).mono ?_; rintro e w' ⟨rfl, rfl⟩; exact ⟨_, rfl, Fut.refl _, _, rfl, lenOf hD9⟩
              intro v12
              simp only [Act.put, List.setIfInBounds_toArray, List.set_cons_succ, List.set_cons_zero, List.nil_append, List.cons_append]
              apply OnD.Run.valF (.inr fun _ _ => trivial) 
              · intro w1 h1 hk
                have f8 := Facts.get hk 1 rfl (by kernel_rfl)
                obtain ⟨rfl, _⟩ := f8
                go_simp
              · intro w1 h1 hk
                have f8 := Facts.get hk 1 rfl (by kernel_rfl)
                go_simp; rfl
              simp only [Act.put, List.setIfInBounds_toArray, List.set_cons_succ, List.set_cons_zero, List.nil_append, List.cons_append]
              apply OnD.Run.valF (.inr fun _ _ => trivial) 
              · intro w1 h1 hk
                have f8 := Facts.get hk 1 rfl (by kernel_rfl)
                obtain ⟨rfl, _⟩ := f8
                go_simp
              · intro w1 h1 hk
                have f8 := Facts.get hk 1 rfl (by kernel_rfl)
                go_simp; rfl
              simp only [Act.put, List.setIfInBounds_toArray, List.set_cons_succ, List.set_cons_zero, List.nil_append, List.cons_append]
              apply OnD.Run.valF (.inr fun _ _ => trivial) 
              · intro w1 h1 hk
                have f8 := Facts.get hk 1 rfl (by kernel_rfl)
                obtain ⟨rfl, _⟩ := f8
                go_simp
              · intro w1 h1 hk
                have f8 := Facts.get hk 1 rfl (by kernel_rfl)
                obtain ⟨_, hFu⟩ := f8; have q0 : w1.cell? ⟨w.heap.size + 1, 1, none⟩ = some (.pointer q2) := hFu.o.2.1; go_simp; rfl
              simp only [Act.put, List.setIfInBounds_toArray, List.set_cons_succ, List.set_cons_zero, List.nil_append, List.cons_append]
              apply OnD.Run.callRF (.inr fun _ _ => trivial) (by intro v w w' hf hs; exact (by obtain ⟨n, h1, h2⟩ := hs; exact ⟨n, h1, h2.fut (show Fut _ _ from hf)⟩)) (fun _ _ => by go_simp; exact ⟨rfl, rfl⟩)
              · intro w1 h1 hk
                have f8 := Facts.get hk 1 rfl (by kernel_rfl)
                have f12 := Facts.get hk 2 rfl (by kernel_rfl)
                obtain ⟨rfl, _⟩ := f8
                go_simp
              · intro w1 h1 hk
                have f8 := Facts.get hk 1 rfl (by kernel_rfl)
                have f12 := Facts.get hk 2 rfl (by kernel_rfl)
                obtain ⟨_, hFu⟩ := f8; obtain ⟨S9, FT9, FD9, hT9, hD9⟩ := hFu.o.2.2; refine (D_len hD9).mono ?_; rintro e w' ⟨rfl, rfl⟩; exact ⟨_, rfl, Fut.refl _, _, rfl, lenOf hD9⟩
              intro v16
              simp only [Act.put, List.setIfInBounds_toArray, List.set_cons_succ, List.set_cons_zero, List.nil_append, List.cons_append]
              apply OnD.Run.valF (.inr fun _ _ => trivial) 
              · intro w1 h1 hk
                have f8 := Facts.get hk 1 rfl (by kernel_rfl)
                have f12 := Facts.get hk 2 rfl (by kernel_rfl)
                have f16 := Facts.get hk 3 rfl (by kernel_rfl)
                obtain ⟨rfl, _⟩ := f8
                go_simp
              · intro w1 h1 hk
                have f8 := Facts.get hk 1 rfl (by kernel_rfl)
                have f12 := Facts.get hk 2 rfl (by kernel_rfl)
                have f16 := Facts.get hk 3 rfl (by kernel_rfl)
                obtain ⟨n, rfl, h7⟩ := f12; obtain ⟨m, rfl, h8⟩ := f16; obtain rfl := lenOf_one h7 h8; go_simp; rfl
              simp only [Act.put, List.setIfInBounds_toArray, List.set_cons_succ, List.set_cons_zero, List.nil_append, List.cons_append]
              apply OnD.Run.valR (.inr fun _ _ => trivial) (wanted_none rfl _) (by intro v w w' hf hs; exact ⟨hs.1, hs.2.fut (show Fut _ _ from hf)⟩)
              · intro w1 h1 hk
                have f8 := Facts.get hk 1 rfl (by kernel_rfl)
                obtain ⟨rfl, hFu⟩ := f8; exact ⟨.bool false, _, (by first | (go_simp; done) | (go_simp; rfl)), Fut.refl _, rfl, hFu⟩
              intro v18
              simp only [Act.put, List.setIfInBounds_toArray, List.set_cons_succ, List.set_cons_zero, List.nil_append, List.cons_append]
              apply OnD.Run.valR (.inr fun _ _ => trivial) (wanted_none rfl _) (by intro v w w' hf hs; exact ⟨hs.1, hs.2.fut (show Fut _ _ from hf)⟩)
              · intro w1 h1 hk
                have f16 := Facts.get hk 3 rfl (by kernel_rfl)
                have f18 := Facts.get hk 4 rfl (by kernel_rfl)
                obtain ⟨rfl, hFu⟩ := f18; exact ⟨.bool false, _, (by first | (go_simp; done) | (go_simp; rfl)), Fut.refl _, rfl, hFu⟩
              intro v19
              simp only [Act.put, List.setIfInBounds_toArray, List.set_cons_succ, List.set_cons_zero, List.nil_append, List.cons_append]
              apply OnD.Run.valF (.inr fun _ _ => trivial) 
              · intro w1 h1 hk
                have f19 := Facts.get hk 5 rfl (by kernel_rfl)
                obtain ⟨rfl, _⟩ := f19
                go_simp
              · intro w1 h1 hk
                have f19 := Facts.get hk 5 rfl (by kernel_rfl)
                go_simp; rfl
              simp only [Act.put, List.setIfInBounds_toArray, List.set_cons_succ, List.set_cons_zero, List.nil_append, List.cons_append]
              apply OnD.Run.valF (.inr fun _ _ => trivial) 
              · intro w1 h1 hk
                have f19 := Facts.get hk 5 rfl (by kernel_rfl)
                obtain ⟨rfl, _⟩ := f19
                go_simp
              · intro w1 h1 hk
                have f19 := Facts.get hk 5 rfl (by kernel_rfl)
                go_simp; rfl
              simp only [Act.put, List.setIfInBounds_toArray, List.set_cons_succ, List.set_cons_zero, List.nil_append, List.cons_append]
              apply OnD.Run.valF (.inr fun _ _ => trivial) 
              · intro w1 h1 hk
                have f19 := Facts.get hk 5 rfl (by kernel_rfl)
                obtain ⟨rfl, _⟩ := f19
                go_simp
              · intro w1 h1 hk
                have f19 := Facts.get hk 5 rfl (by kernel_rfl)
                obtain ⟨_, hFu⟩ := f19; have q0 : w1.cell? ⟨w.heap.size + 1, 5, none⟩ = some (.pointer p1) := hFu.k.1; go_simp; rfl
              simp only [Act.put, List.setIfInBounds_toArray, List.set_cons_succ, List.set_cons_zero, List.nil_append, List.cons_append]
              apply OnD.Run.callRF (.inr fun _ _ => trivial) (by intro v w w' hf hs; exact (by obtain ⟨n, h1, h2⟩ := hs; exact ⟨n, h1, h2.fut (show Fut _ _ from hf)⟩)) (fun _ _ => by go_simp; exact ⟨rfl, rfl⟩)
              · intro w1 h1 hk
                have f19 := Facts.get hk 5 rfl (by kernel_rfl)
                obtain ⟨rfl, _⟩ := f19
                go_simp
              · intro w1 h1 hk
                have f19 := Facts.get hk 5 rfl (by kernel_rfl)
                obtain ⟨_, hFu⟩ := f19; obtain ⟨S9, FT9, FD9, hT9, hD9⟩ := hFu.k.2.2; refine (T_len hT9).mono ?_; rintro e w' ⟨rfl, rfl⟩; exact ⟨_, rfl, Fut.refl _, _, rfl, lenOf hD9⟩
              intro v23
              simp only [Act.put, List.setIfInBounds_toArray, List.set_cons_succ, List.set_cons_zero, List.nil_append, List.cons_append]
              apply OnD.Run.valF (.inr fun _ _ => trivial) 
              · intro w1 h1 hk
                have f19 := Facts.get hk 5 rfl (by kernel_rfl)
                obtain ⟨rfl, _⟩ := f19
                go_simp
              · intro w1 h1 hk
                have f19 := Facts.get hk 5 rfl (by kernel_rfl)
                go_simp; rfl
              simp only [Act.put, List.setIfInBounds_toArray, List.set_cons_succ, List.set_cons_zero, List.nil_append, List.cons_append]
              apply OnD.Run.valF (.inr fun _ _ => trivial) 
              · intro w1 h1 hk
                have f19 := Facts.get hk 5 rfl (by kernel_rfl)
                obtain ⟨rfl, _⟩ := f19
                go_simp
              · intro w1 h1 hk
                have f19 := Facts.get hk 5 rfl (by kernel_rfl)
                go_simp; rfl
              simp only [Act.put, List.setIfInBounds_toArray, List.set_cons_succ, List.set_cons_zero, List.nil_append, List.cons_append]
              apply OnD.Run.valF (.inr fun _ _ => trivial) 
              · intro w1 h1 hk
                have f19 := Facts.get hk 5 rfl (by kernel_rfl)
                obtain ⟨rfl, _⟩ := f19
                go_simp
              · intro w1 h1 hk
                have f19 := Facts.get hk 5 rfl (by kernel_rfl)
                obtain ⟨_, hFu⟩ := f19; have q0 : w1.cell? ⟨w.heap.size + 1, 6, none⟩ = some (.pointer q1) := hFu.k.2.1; go_simp; rfl
              simp only [Act.put, List.setIfInBounds_toArray, List.set_cons_succ, List.set_cons_zero, List.nil_append, List.cons_append]
              apply OnD.Run.callRF (.inr fun _ _ => trivial) (by intro v w w' hf hs; exact (by obtain ⟨n, h1, h2⟩ := hs; exact ⟨n, h1, h2.fut (show Fut _ _ from hf)⟩)) (fun _ _ => by go_simp; exact ⟨rfl, rfl⟩)
              · intro w1 h1 hk
                have f19 := Facts.get hk 5 rfl (by kernel_rfl)
                have f23 := Facts.get hk 6 rfl (by kernel_rfl)
                obtain ⟨rfl, _⟩ := f19
                go_simp
              · intro w1 h1 hk
                have f19 := Facts.get hk 5 rfl (by kernel_rfl)
                have f23 := Facts.get hk 6 rfl (by kernel_rfl)
                obtain ⟨_, hFu⟩ := f19; obtain ⟨S9, FT9, FD9, hT9, hD9⟩ := hFu.k.2.2; refine (D_len hD9).mono ?_; rintro e w' ⟨rfl, rfl⟩; exact ⟨_, rfl, Fut.refl _, _, rfl, lenOf hD9⟩
              intro v27
              simp only [Act.put, List.setIfInBounds_toArray, List.set_cons_succ, List.set_cons_zero, List.nil_append, List.cons_append]
              apply OnD.Run.valF (.inr fun _ _ => trivial) 
              · intro w1 h1 hk
                have f19 := Facts.get hk 5 rfl (by kernel_rfl)
                have f23 := Facts.get hk 6 rfl (by kernel_rfl)
                have f27 := Facts.get hk 7 rfl (by kernel_rfl)
                obtain ⟨rfl, _⟩ := f19
                go_simp
              · intro w1 h1 hk
                have f19 := Facts.get hk 5 rfl (by kernel_rfl)
                have f23 := Facts.get hk 6 rfl (by kernel_rfl)
                have f27 := Facts.get hk 7 rfl (by kernel_rfl)
                obtain ⟨n, rfl, h7⟩ := f23; obtain ⟨m, rfl, h8⟩ := f27; obtain rfl := lenOf_one h7 h8; go_simp; rfl
              simp only [Act.put, List.setIfInBounds_toArray, List.set_cons_succ, List.set_cons_zero, List.nil_append, List.cons_append]
              apply OnD.Run.valG (.inr fun _ _ => trivial) (wanted_none rfl _)
              · intro w1 h1 hk
                have f19 := Facts.get hk 5 rfl (by kernel_rfl)
                obtain ⟨rfl, _⟩ := f19; go_simp; rfl
              simp only [Act.put, List.setIfInBounds_toArray, List.set_cons_succ, List.set_cons_zero, List.nil_append, List.cons_append]
              apply OnD.Run.done
              intro w6 h6 hk hJ
              obtain ⟨f6, f8, f12, f16, f18, f19, f23, f27, _⟩ := hk
              obtain ⟨_, ⟨S', O', kv', x', t', FT', FD', hBn, hrn, hgn, hOn⟩, kv9, x9, t9, FT9, FD9, hBo⟩ := f19
              have hO6 : Only (fun j => O1 j ∨ j = w.heap.size + 1) w5 w6 := (Only.fut (Fut.drew _)).trans (show Only (fun j => O1 j ∨ j = w.heap.size + 1) _ _ from h6)
              have hF6 : Fut w w6 := ((Only.fut hFW).trans (hO6.mono (S' := fun j => w.heap.size ≤ j) fun j _ hj => hj.elim (hgeK j) fun e => by omega)).toFut fun j hj => hj
              clear i6 h6 hJ f6 f8 f12 f16 f18 f23 f27
              have HBn := Lib.hid hBn
              have HBo' := Lib.hid hBo
              have hdn : ∀ j, O' j → ¬ (fun j => G1 j ∨ G2 j) j := fun j hj hk => (hOn j hj).elim (fun h => hdisW j h hk) fun h => by have := hltO j hk; omega
              have hgn2 : ∀ j, O' j → w.heap.size ≤ j := fun j hj => (hOn j hj).elim (hgeK j) fun h => by omega
              clear hBn hBo hO6
              go_wp2
              go_roundw
              case rel => exact ⟨k + 1, by omega, by go_num, Lib.hid ⟨hF6, _, _, ⟨(fun j => G1 j ∨ G2 j), p2, q2, kv9, x9, t9, FT9, FD9, O', p1, q1, kv', x', t', FT', FD', HBo'.out, HBn.out, fun j hj hk => hdn j hk hj, fun j hj => hj.elim (hgeO j) (hgn2 j)⟩, by omega, by omega, by omega, by omega⟩⟩
              case measure => simp [intOf] <;> omega
            · have hFW := hF
              have hdisW : ∀ j, O1 j → ¬ O0 j := fun j hj hk => hdis j hk hj
              have hgeK := hge1
              have hgeO := hge0
              have hltO := hlt0
              go_wp2_with fail
              letI i6 : OnD.Mut := OnD.Mut.late 6 (Only fun j => O1 j ∨ j = w.heap.size + 1) Only.fut Only.trans
              refine OnD.wp_graph 30 [.d, .d, .d, .d, .d, .d, .r (fun v w' => v = .bool true ∧ Full w.heap.size wr (w.heap.size + 1) 5 0 S1 O1 p1 q1 S0 O0 p0 q0 w'), .d, .r (fun v w' => v = .bool false ∧ Full w.heap.size wr (w.heap.size + 1) 5 0 S1 O1 p1 q1 S0 O0 p0 q0 w'), .d, .d, .d, .r (fun v w' => ∃ n : Nat, v = .int .i64 n ∧ LenOf w' q0 n), .d, .d, .d, .r (fun v w' => ∃ n : Nat, v = .int .i64 n ∧ LenOf w' q0 n), .d, .r (fun v w' => v = .bool false ∧ Full w.heap.size wr (w.heap.size + 1) 5 0 S1 O1 p1 q1 S0 O0 p0 q0 w'), .r (fun v w' => v = .bool false ∧ Full w.heap.size wr (w.heap.size + 1) 5 0 S1 O1 p1 q1 S0 O0 p0 q0 w'), .d, .d, .d, .r (fun v w' => ∃ n : Nat, v = .int .i64 n ∧ LenOf w' q1 n), .d, .d, .d, .r (fun v w' => ∃ n : Nat, v = .int .i64 n ∧ LenOf w' q1 n), .d, .d] (by kernel_rfl) (by kernel_rfl) (by kernel_rfl) (.inr fun _ _ => trivial) (OnD.late_dep (by kernel_rfl)) ?_
              simp only [List.take_succ_cons, List.take_zero, List.drop_succ_cons, List.drop_zero, Exs]
              iterate 22 apply Exists.intro
              apply OnD.Run.valG (.inr fun _ _ => trivial) (wanted_none rfl _)
              · intro w1 h1 hk
                go_simp; rfl
              simp only [Act.put, List.setIfInBounds_toArray, List.set_cons_succ, List.set_cons_zero, List.nil_append, List.cons_append]
              apply OnD.Run.valG (.inr fun _ _ => trivial) (wanted_none rfl _)
              · intro w1 h1 hk
                go_simp; rfl
              simp only [Act.put, List.setIfInBounds_toArray, List.set_cons_succ, List.set_cons_zero, List.nil_append, List.cons_append]
              apply OnD.Run.valG (.inr fun _ _ => trivial) (wanted_none rfl _)
              · intro w1 h1 hk
                go_simp; rfl
              simp only [Act.put, List.setIfInBounds_toArray, List.set_cons_succ, List.set_cons_zero, List.nil_append, List.cons_append]
              apply OnD.Run.valG (.inr fun _ _ => trivial) (wanted_none rfl _)
              · intro w1 h1 hk
                go_simp; rfl
              simp only [Act.put, List.setIfInBounds_toArray, List.set_cons_succ, List.set_cons_zero, List.nil_append, List.cons_append]
              apply OnD.Run.valG (.inr fun _ _ => trivial) (wanted_none rfl _)
              · intro w1 h1 hk
                go_simp; rfl
              simp only [Act.put, List.setIfInBounds_toArray, List.set_cons_succ, List.set_cons_zero, List.nil_append, List.cons_append]
              apply OnD.Run.valG (.inr fun _ _ => trivial) (wanted_none rfl _)
              · intro w1 h1 hk
                exact exec_load_Op _ rfl rfl (HOP.out.fut ((Fut.drew _).trans (show Fut _ _ from h1))) hro
              simp only [Act.put, List.setIfInBounds_toArray, List.set_cons_succ, List.set_cons_zero, List.nil_append, List.cons_append]
              apply OnD.Run.mutR (.inr fun _ _ => trivial) (wanted_none rfl _) (by intro v w w' hf hs; exact ⟨hs.1, hs.2.fut (show Fut _ _ from hf)⟩) (fun _ _ => by go_simp; exact ⟨rfl, rfl⟩)
              · intro w1 h1 hk
                have hg := (Fut.drew wr).trans (show Fut _ _ from h1); refine (does_all (HB1.out.fut hg) (by omega) (by omega) o hok (fun _ W' kv' f' t' h' => amid_any h' (by omega) (by omega) o hok)).mono ?_; intro e w' hd; obtain ⟨rfl, h2, h3⟩ := full_of (W := wr) hd (HB0.out.fut hg) hdisW hg.size (by omega); exact ⟨_, rfl, OnD.Eff.late h3, rfl, h2⟩
              intro v6
              simp only [Act.put, List.setIfInBounds_toArray, List.set_cons_succ, List.set_cons_zero, List.nil_append, List.cons_append]
              apply OnD.Run.valG (.inr fun _ _ => trivial) (wanted_none rfl _)
              · intro w1 h1 hk
                have f6 := Facts.get hk 0 rfl (by kernel_rfl)
                obtain ⟨rfl, _⟩ := f6; go_simp; rfl
              simp only [Act.put, List.setIfInBounds_toArray, List.set_cons_succ, List.set_cons_zero, List.nil_append, List.cons_append]
              apply OnD.Run.valR (.inr fun _ _ => trivial) (wanted_none rfl _) (by intro v w w' hf hs; exact ⟨hs.1, hs.2.fut (show Fut _ _ from hf)⟩)
              · intro w1 h1 hk
                have f6 := Facts.get hk 0 rfl (by kernel_rfl)
                obtain ⟨rfl, hFu⟩ := f6; exact ⟨.bool false, _, (by first | (go_simp; done) | (go_simp; rfl)), Fut.refl _, rfl, hFu⟩
              intro v8
              simp only [Act.put, List.setIfInBounds_toArray, List.set_cons_succ, List.set_cons_zero, List.nil_append, List.cons_append]
              apply OnD.Run.valF (.inr fun _ _ => trivial) 
              · intro w1 h1 hk
                have f8 := Facts.get hk 1 rfl (by kernel_rfl)
                obtain ⟨rfl, _⟩ := f8
                go_simp
              · intro w1 h1 hk
                have f8 := Facts.get hk 1 rfl (by kernel_rfl)
                go_simp; rfl
              simp only [Act.put, List.setIfInBounds_toArray, List.set_cons_succ, List.set_cons_zero, List.nil_append, List.cons_append]
              apply OnD.Run.valF (.inr fun _ _ => trivial) 
              · intro w1 h1 hk
                have f8 := Facts.get hk 1 rfl (by kernel_rfl)
                obtain ⟨rfl, _⟩ := f8
                go_simp
              · intro w1 h1 hk
                have f8 := Facts.get hk 1 rfl (by kernel_rfl)
                go_simp; rfl
              simp only [Act.put, List.setIfInBounds_toArray, List.set_cons_succ, List.set_cons_zero, List.nil_append, List.cons_append]
              apply OnD.Run.valF (.inr fun _ _ => trivial) 
              · intro w1 h1 hk
                have f8 := Facts.get hk 1 rfl (by kernel_rfl)
                obtain ⟨rfl, _⟩ := f8
                go_simp
              · intro w1 h1 hk
                have f8 := Facts.get hk 1 rfl (by kernel_rfl)
                obtain ⟨_, hFu⟩ := f8; have q0 : w1.cell? ⟨w.heap.size + 1, 0, none⟩ = some (.pointer p0) := hFu.o.1; go_simp; rfl
              simp only [Act.put, List.setIfInBounds_toArray, List.set_cons_succ, List.set_cons_zero, List.nil_append, List.cons_append]
              apply OnD.Run.callRF (.inr fun _ _ => trivial) (by intro v w w' hf hs; exact (by obtain ⟨n, h1, h2⟩ := hs; exact ⟨n, h1, h2.fut (show Fut _ _ from hf)⟩)) (fun _ _ => by go_simp; exact ⟨rfl, rfl⟩)
              · intro w1 h1 hk
                have f8 := Facts.get hk 1 rfl (by kernel_rfl)
                obtain ⟨rfl, _⟩ := f8
                go_simp
              · intro w1 h1 hk
                have f8 := Facts.get hk 1 rfl (by kernel_rfl)
                obtain ⟨_, hFu⟩ := f8; obtain ⟨S9, FT9, FD9, hT9, hD9⟩ := hFu.o.2.2; refine (T_len hT9).mono ?_; rintro e w' ⟨rfl, rfl⟩; exact ⟨_, rfl, Fut.refl _, _, rfl, lenOf hD9⟩
              intro v12
              simp only [Act.put, List.setIfInBounds_toArray, List.set_cons_succ, List.set_cons_zero, List.nil_append, List.cons_append]
              apply OnD.Run.valF (.inr fun _ _ => trivial) 
              · intro w1 h1 hk
                have f8 := Facts.get hk 1 rfl (by kernel_rfl)
                obtain ⟨rfl, _⟩ := f8
                go_simp
              · intro w1 h1 hk
                have f8 := Facts.get hk 1 rfl (by kernel_rfl)
                go_simp; rfl
              simp only [Act.put, List.setIfInBounds_toArray, List.set_cons_succ, List.set_cons_zero, List.nil_append, List.cons_append]
              apply OnD.Run.valF (.inr fun _ _ => trivial) 
              · intro w1 h1 hk
                have f8 := Facts.get hk 1 rfl (by kernel_rfl)
                obtain ⟨rfl, _⟩ := f8
                go_simp
              · intro w1 h1 hk
                have f8 := Facts.get hk 1 rfl (by kernel_rfl)
                go_simp; rfl
              simp only [Act.put, List.setIfInBounds_toArray, List.set_cons_succ, List.set_cons_zero, List.nil_append, List.cons_append]
              apply OnD.Run.valF (.inr fun _ _ => trivial) 
              · intro w1 h1 hk
                have f8 := Facts.get hk 1 rfl (by kernel_rfl)
                obtain ⟨rfl, _⟩ := f8
                go_simp
              · intro w1 h1 hk
                have f8 := Facts.get hk 1 rfl (by kernel_rfl)
                obtain ⟨_, hFu⟩ := f8; have q0 : w1.cell? ⟨w.heap.size + 1, 1, none⟩ = some (.pointer q0) := hFu.o.2.1; go_simp; rfl
              simp only [Act.put, List.setIfInBounds_toArray, List.set_cons_succ, List.set_cons_zero, List.nil_append, List.cons_append]
              apply OnD.Run.callRF (.inr fun _ _ => trivial) (by intro v w w' hf hs; exact (by obtain ⟨n, h1, h2⟩ := hs; exact ⟨n, h1, h2.fut (show Fut _ _ from hf)⟩)) (fun _ _ => by go_simp; exact ⟨rfl, rfl⟩)
              · intro w1 h1 hk
                have f8 := Facts.get hk 1 rfl (by kernel_rfl)
                have f12 := Facts.get hk 2 rfl (by kernel_rfl)
                obtain ⟨rfl, _⟩ := f8
                go_simp
              · intro w1 h1 hk
                have f8 := Facts.get hk 1 rfl (by kernel_rfl)
                have f12 := Facts.get hk 2 rfl (by kernel_rfl)
                obtain ⟨_, hFu⟩ := f8; obtain ⟨S9, FT9, FD9, hT9, hD9⟩ := hFu.o.2.2; refine (D_len hD9).mono ?_; rintro e w' ⟨rfl, rfl⟩; exact ⟨_, rfl, Fut.refl _, _, rfl, lenOf hD9⟩
              intro v16
              simp only [Act.put, List.setIfInBounds_toArray, List.set_cons_succ, List.set_cons_zero, List.nil_append, List.cons_append]
              apply OnD.Run.valF (.inr fun _ _ => trivial) 
              · intro w1 h1 hk
                have f8 := Facts.get hk 1 rfl (by kernel_rfl)
                have f12 := Facts.get hk 2 rfl (by kernel_rfl)
                have f16 := Facts.get hk 3 rfl (by kernel_rfl)
                obtain ⟨rfl, _⟩ := f8
                go_simp
              · intro w1 h1 hk
                have f8 := Facts.get hk 1 rfl (by kernel_rfl)
                have f12 := Facts.get hk 2 rfl (by kernel_rfl)
                have f16 := Facts.get hk 3 rfl (by kernel_rfl)
                obtain ⟨n, rfl, h7⟩ := f12; obtain ⟨m, rfl, h8⟩ := f16; obtain rfl := lenOf_one h7 h8; go_simp; rfl
              simp only [Act.put, List.setIfInBounds_toArray, List.set_cons_succ, List.set_cons_zero, List.nil_append, List.cons_append]
              apply OnD.Run.valR (.inr fun _ _ => trivial) (wanted_none rfl _) (by intro v w w' hf hs; exact ⟨hs.1, hs.2.fut (show Fut _ _ from hf)⟩)
              · intro w1 h1 hk
                have f8 := Facts.get hk 1 rfl (by kernel_rfl)
                obtain ⟨rfl, hFu⟩ := f8; exact ⟨.bool false, _, (by first | (go_simp; done) | (go_simp; rfl)), Fut.refl _, rfl, hFu⟩
              intro v18
              simp only [Act.put, List.setIfInBounds_toArray, List.set_cons_succ, List.set_cons_zero, List.nil_append, List.cons_append]
              apply OnD.Run.valR (.inr fun _ _ => trivial) (wanted_none rfl _) (by intro v w w' hf hs; exact ⟨hs.1, hs.2.fut (show Fut _ _ from hf)⟩)
              · intro w1 h1 hk
                have f16 := Facts.get hk 3 rfl (by kernel_rfl)
                have f18 := Facts.get hk 4 rfl (by kernel_rfl)
                obtain ⟨rfl, hFu⟩ := f18; exact ⟨.bool false, _, (by first | (go_simp; done) | (go_simp; rfl)), Fut.refl _, rfl, hFu⟩
              intro v19
              simp only [Act.put, List.setIfInBounds_toArray, List.set_cons_succ, List.set_cons_zero, List.nil_append, List.cons_append]
              apply OnD.Run.valF (.inr fun _ _ => trivial) 
              · intro w1 h1 hk
                have f19 := Facts.get hk 5 rfl (by kernel_rfl)
                obtain ⟨rfl, _⟩ := f19
                go_simp
              · intro w1 h1 hk
                have f19 := Facts.get hk 5 rfl (by kernel_rfl)
                go_simp; rfl
              simp only [Act.put, List.setIfInBounds_toArray, List.set_cons_succ, List.set_cons_zero, List.nil_append, List.cons_append]
              apply OnD.Run.valF (.inr fun _ _ => trivial) 
              · intro w1 h1 hk
                have f19 := Facts.get hk 5 rfl (by kernel_rfl)
                obtain ⟨rfl, _⟩ := f19
                go_simp
              · intro w1 h1 hk
                have f19 := Facts.get hk 5 rfl (by kernel_rfl)
                go_simp; rfl
              simp only [Act.put, List.setIfInBounds_toArray, List.set_cons_succ, List.set_cons_zero, List.nil_append, List.cons_append]
              apply OnD.Run.valF (.inr fun _ _ => trivial) 
              · intro w1 h1 hk
                have f19 := Facts.get hk 5 rfl (by kernel_rfl)
                obtain ⟨rfl, _⟩ := f19
                go_simp
              · intro w1 h1 hk
                have f19 := Facts.get hk 5 rfl (by kernel_rfl)
                obtain ⟨_, hFu⟩ := f19; have q0 : w1.cell? ⟨w.heap.size + 1, 5, none⟩ = some (.pointer p1) := hFu.k.1; go_simp; rfl
              simp only [Act.put, List.setIfInBounds_toArray, List.set_cons_succ, List.set_cons_zero, List.nil_append, List.cons_append]
              apply OnD.Run.callRF (.inr fun _ _ => trivial) (by intro v w w' hf hs; exact (by obtain ⟨n, h1, h2⟩ := hs; exact ⟨n, h1, h2.fut (show Fut _ _ from hf)⟩)) (fun _ _ => by go_simp; exact ⟨rfl, rfl⟩)
              · intro w1 h1 hk
                have f19 := Facts.get hk 5 rfl (by kernel_rfl)
                obtain ⟨rfl, _⟩ := f19
                go_simp
              · intro w1 h1 hk
                have f19 := Facts.get hk 5 rfl (by kernel_rfl)
                obtain ⟨_, hFu⟩ := f19; obtain ⟨S9, FT9, FD9, hT9, hD9⟩ := hFu.k.2.2; refine (T_len hT9).mono ?_; rintro e w' ⟨rfl, rfl⟩; exact ⟨_, rfl, Fut.refl _, _, rfl, lenOf hD9⟩
              intro v23
              simp only [Act.put, List.setIfInBounds_toArray, List.set_cons_succ, List.set_cons_zero, List.nil_append, List.cons_append]
              apply OnD.Run.valF (.inr fun _ _ => trivial) 
              · intro w1 h1 hk
                have f19 := Facts.get hk 5 rfl (by kernel_rfl)
                obtain ⟨rfl, _⟩ := f19
                go_simp
              · intro w1 h1 hk
                have f19 := Facts.get hk 5 rfl (by kernel_rfl)
                go_simp; rfl
              simp only [Act.put, List.setIfInBounds_toArray, List.set_cons_succ, List.set_cons_zero, List.nil_append, List.cons_append]
              apply OnD.Run.valF (.inr fun _ _ => trivial) 
              · intro w1 h1 hk
                have f19 := Facts.get hk 5 rfl (by kernel_rfl)
                obtain ⟨rfl, _⟩ := f19
                go_simp
              · intro w1 h1 hk
                have f19 := Facts.get hk 5 rfl (by kernel_rfl)
                go_simp; rfl
              simp only [Act.put, List.setIfInBounds_toArray, List.set_cons_succ, List.set_cons_zero, List.nil_append, List.cons_append]
              apply OnD.Run.valF (.inr fun _ _ => trivial) 
              · intro w1 h1 hk
                have f19 := Facts.get hk 5 rfl (by kernel_rfl)
                obtain ⟨rfl, _⟩ := f19
                go_simp
              · intro w1 h1 hk
                have f19 := Facts.get hk 5 rfl (by kernel_rfl)
                obtain ⟨_, hFu⟩ := f19; have q0 : w1.cell? ⟨w.heap.size + 1, 6, none⟩ = some (.pointer q1) := hFu.k.2.1; go_simp; rfl
              simp only [Act.put, List.setIfInBounds_toArray, List.set_cons_succ, List.set_cons_zero, List.nil_append, List.cons_append]
              apply OnD.Run.callRF (.inr fun _ _ => trivial) (by intro v w w' hf hs; exact (by obtain ⟨n, h1, h2⟩ := hs; exact ⟨n, h1, h2.fut (show Fut _ _ from hf)⟩)) (fun _ _ => by go_simp; exact ⟨rfl, rfl⟩)
              · intro w1 h1 hk
                have f19 := Facts.get hk 5 rfl (by kernel_rfl)
                have f23 := Facts.get hk 6 rfl (by kernel_rfl)
                obtain ⟨rfl, _⟩ := f19
                go_simp
              · intro w1 h1 hk
                have f19 := Facts.get hk 5 rfl (by kernel_rfl)
                have f23 := Facts.get hk 6 rfl (by kernel_rfl)
                obtain ⟨_, hFu⟩ := f19; obtain ⟨S9, FT9, FD9, hT9, hD9⟩ := hFu.k.2.2; refine (D_len hD9).mono ?_; rintro e w' ⟨rfl, rfl⟩; exact ⟨_, rfl, Fut.refl _, _, rfl, lenOf hD9⟩
              intro v27
              simp only [Act.put, List.setIfInBounds_toArray, List.set_cons_succ, List.set_cons_zero, List.nil_append, List.cons_append]
              apply OnD.Run.valF (.inr fun _ _ => trivial) 
              · intro w1 h1 hk
                have f19 := Facts.get hk 5 rfl (by kernel_rfl)
                have f23 := Facts.get hk 6 rfl (by kernel_rfl)
                have f27 := Facts.get hk 7 rfl (by kernel_rfl)
                obtain ⟨rfl, _⟩ := f19
                go_simp
              · intro w1 h1 hk
                have f19 := Facts.get hk 5 rfl (by kernel_rfl)
                have f23 := Facts.get hk 6 rfl (by kernel_rfl)
                have f27 := Facts.get hk 7 rfl (by kernel_rfl)
                obtain ⟨n, rfl, h7⟩ := f23; obtain ⟨m, rfl, h8⟩ := f27; obtain rfl := lenOf_one h7 h8; go_simp; rfl
              simp only [Act.put, List.setIfInBounds_toArray, List.set_cons_succ, List.set_cons_zero, List.nil_append, List.cons_append]
              apply OnD.Run.valG (.inr fun _ _ => trivial) (wanted_none rfl _)
              · intro w1 h1 hk
                have f19 := Facts.get hk 5 rfl (by kernel_rfl)
                obtain ⟨rfl, _⟩ := f19; go_simp; rfl
              simp only [Act.put, List.setIfInBounds_toArray, List.set_cons_succ, List.set_cons_zero, List.nil_append, List.cons_append]
              apply OnD.Run.done
              intro w6 h6 hk hJ
              obtain ⟨f6, f8, f12, f16, f18, f19, f23, f27, _⟩ := hk
              obtain ⟨_, ⟨S', O', kv', x', t', FT', FD', hBn, hrn, hgn, hOn⟩, kv9, x9, t9, FT9, FD9, hBo⟩ := f19
              have hO6 : Only (fun j => O1 j ∨ j = w.heap.size + 1) wr w6 := (Only.fut (Fut.drew _)).trans (show Only (fun j => O1 j ∨ j = w.heap.size + 1) _ _ from h6)
              have hF6 : Fut w w6 := ((Only.fut hFW).trans (hO6.mono (S' := fun j => w.heap.size ≤ j) fun j _ hj => hj.elim (hgeK j) fun e => by omega)).toFut fun j hj => hj
              clear i6 h6 hJ f6 f8 f12 f16 f18 f23 f27
              have HBn := Lib.hid hBn
              have HBo' := Lib.hid hBo
              have hdn : ∀ j, O' j → ¬ O0 j := fun j hj hk => (hOn j hj).elim (fun h => hdisW j h hk) fun h => by have := hltO j hk; omega
              have hgn2 : ∀ j, O' j → w.heap.size ≤ j := fun j hj => (hOn j hj).elim (hgeK j) fun h => by omega
              clear hBn hBo hO6
              go_wp2
              go_roundw
              case rel => exact ⟨k + 1, by omega, by go_num, Lib.hid ⟨hF6, _, _, ⟨O0, p0, q0, kv9, x9, t9, FT9, FD9, O', p1, q1, kv', x', t', FT', FD', HBo'.out, HBn.out, fun j hj hk => hdn j hk hj, fun j hj => hj.elim (hgeO j) (hgn2 j)⟩, by omega, by omega, by omega, by omega⟩⟩
              case measure => simp [intOf] <;> omega
        · obtain rfl : k = l.length := by omega
          obtain ⟨hF, S0, S1, ⟨O0, p0, q0, kv0, f0, t0, FT0, FD0, O1, p1, q1, kv1, f1, t1, FT1, FD1, hB0, hB1, hdis, hge⟩, hr0, hr1, hg0, hg1⟩ := hP.out
          have HF := Lib.hid hF
          have HB0 := Lib.hid hB0
          have HB1 := Lib.hid hB1
          clear hF hB0 hB1 hP
          go_wp2_with fail
          refine (whole_any HB0.out (by omega)).mono ?_
          rintro e w7 ⟨rfl, hf7⟩
          go_wp2_with fail
          refine (whole_any (HB1.out.fut hf7) (by omega)).mono ?_
          rintro e w8 ⟨rfl, hf8⟩
          go_wp2_with fail
          refine (lives10 _).mono ?_
          rintro e w9 ⟨rfl, hf9⟩
          go_wp2
          go_ret
          exact ⟨rfl, HF.out.trans ((hf7.trans hf8).trans hf9)⟩
end Go.Proofs.Ytcekphjcmippoaa
/- RelationPlays: two relations under any calls, one made anew as the other's Clone. -/
namespace Go.Proofs.Ytcekphjcmippoaa
open Go.RowKit Go.WideMaps Go.ChangeShapes Go.WideShapes Go.ChangeAt Go.Deep
set_option linter.unusedSimpArgs false
set_option linter.unusedVariables false
set_option maxRecDepth 100000

theorem RelationPlays_own : ownKnob Try.prog.godebug = none := by kernel_rfl
theorem RelationPlays_laidOut : laidOutB Try.prog = true := by kernel_rfl
theorem RelationPlays_row_walk {H : Type} {enc : TypeId × Value → H} (W : World) (base : Nat) (args : Array Value) (ds : List (DataW H)) (p : List MemPlace)
    (hval : ∀ (j : Nat) t v, (#[3, 3, 56] : Array Nat)[j]? = some t → args[j]? = some v → Value.okWide Try.prog W .any base t v)
    (hA : DataW.TrodAll enc Try.prog W 0 (fun _ => true) true [3, 3, 56] args.toList ds p) (hS : (DataW.weightsEach Try.prog [3, 3, 56] ds).all (fun n => decide (n ≤ reachBytes)) = true) :
    Calls Try.prog 6 args W fun e W' => e = .returned (.bool true) ∧ Fut W W' := by
  obtain ⟨v0, vs0, d0, ds0, p0, q0, hargs, rfl, rfl, h0, r0⟩ := trodAll_cons hA
  obtain ⟨v1, vs1, d1, ds1, p1, q1, rfl, rfl, rfl, h1, r1⟩ := trodAll_cons r0
  obtain ⟨v2, vs2, d2, ds2, p2, q2, rfl, rfl, rfl, h2, r2⟩ := trodAll_cons r1
  obtain ⟨rfl, rfl, rfl⟩ := trodAll_nil r2
  obtain rfl : args = #[v0, v1, v2] := by cases args; simp_all
  have k0 := hval 0 3 v0 rfl rfl
  have k1 := hval 1 3 v1 rfl rfl
  have k2 := hval 2 56 v2 rfl rfl
  have s0 := weights_arg hS 0 rfl rfl
  have s1 := weights_arg hS 1 rfl rfl
  have s2 := weights_arg hS 2 rfl rfl
  clear hval hA hS
  obtain ⟨l, hl⟩ := reads_arg rOps h2 s2
  have hl := arg_slice hl Try.underlying56 k2
  obtain ⟨m, rfl⟩ := okWide_int Try.underlying3 k0
  obtain ⟨n, rfl⟩ := okWide_int Try.underlying3 k1
  exact plays_walk v2 l m n W hl
set_option maxRecDepth 100000 in
theorem RelationPlays_lifted (os : Os) (started : os.Started) (H : Type) (enc : TypeId × Value → H) :
    ReturnsInHanded {} Try.checked os 6 .any (Rows.relationPlaysSpec.pre6 enc Try.prog Try.f6 Rows.relationPlaysRow.domain false) (Rows.relationPlaysSpec.post enc Try.prog Try.f6 false true false false) := by
  refine returnsInHanded_of_change_sized (C := Try.checked) RelationPlays_own started (by kernel_rfl) Try.func6
    (ChangeSpec.witness6 (enc := enc) (C := Try.checked) false ⟨#[], #[.int .i64 0, .int .i64 0, .slice none 0 0], []⟩ 8 (by kernel_rfl) (by kernel_rfl) (by kernel_rfl) (by kernel_rfl)) ?_
  intro W base args ds gs before hval0 hW _ hsz _
  have hW' := hW
  obtain ⟨p, q, hA0, hV, rfl, _, _⟩ := hW
  have hA : DataW.TrodAll enc Try.prog W 0 (fun _ => true) true [3, 3, 56] args.toList ds p := hA0
  obtain ⟨rfl, rfl⟩ := trodVars_none hV
  rw [List.append_nil] at hsz
  refine (RelationPlays_row_walk W base args ds p hval0 hA hsz).mono fun e W' ⟨he, hf⟩ => ?_
  subst he
  obtain ⟨v0, vs0, d0, ds0, p0, q0, _, rfl, _, _, r0⟩ := trodAll_cons hA
  obtain ⟨v1, vs1, d1, ds1, p1, q1, _, rfl, _, _, r1⟩ := trodAll_cons r0
  obtain ⟨v2, vs2, d2, ds2, p2, q2, _, rfl, _, _, r2⟩ := trodAll_cons r1
  obtain ⟨_, rfl, _⟩ := trodAll_nil r2
  exact ⟨_, rfl, law_post (tb := 4) RelationPlays_laidOut hW' rfl (by kernel_rfl) rfl Try.underlying4 rfl rfl rfl hf⟩
theorem RelationPlays_holds : Rows.RelationPlaysSaid :=
  OpenClaim.holds_of_wide 6 Try.f6 rfl rfl rfl rfl rfl rfl rfl ⟨rfl, rfl, rfl, rfl, rfl⟩ rfl rfl rfl rfl rfl (by kernel_rfl) Try.func6 (by kernel_rfl)
    (of_decide_eq_true (by kernel_rfl)) (by unfold Func.isWrapper; first | (rw [if_pos (by decide +kernel)]; kernel_rfl) | (rw [if_neg (by decide +kernel)]; exact ⟨rfl, rfl⟩))
    (fun os started H enc _ => RelationPlays_lifted os started H enc)
#print axioms RelationPlays_holds
end Go.Proofs.Ytcekphjcmippoaa
