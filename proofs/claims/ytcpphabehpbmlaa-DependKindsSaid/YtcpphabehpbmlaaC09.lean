/- TWalk, TWalkR, TRule, TCheckR, TLim -/
import Derived.Test.YtcpphabehpbmlaaC08
/- term.walk with the callback of term.vars: expressions, atoms. -/
namespace Go.Proofs.Ytcpphabehpbmlaa
open Go.RowKit Go.WideMaps Go.Maps
set_option linter.unusedSimpArgs false
set_option linter.unusedVariables false

mutual
def Ex.vs : Ex → List ByteArray
  | .mk _ t ks => t.v :: Ex.vss ks
def Ex.vss : List Ex → List ByteArray
  | [] => []
  | k :: r => k.vs ++ Ex.vss r
end
theorem vss_flat : ∀ l : List Ex, Ex.vss l = l.flatMap Ex.vs
  | [] => rfl
  | k :: r => by rw [Ex.vss, vss_flat r, List.flatMap_cons]
mutual
theorem Ex.vs_len : ∀ x : Ex, x.vs.length = x.size
  | .mk _ t ks => by rw [Ex.vs, Ex.size, List.length_cons, Ex.vss_len ks]; omega
theorem Ex.vss_len : ∀ l : List Ex, (Ex.vss l).length = Ex.sizes l
  | [] => rfl
  | k :: r => by rw [Ex.vss, Ex.sizes, List.length_append, Ex.vs_len k, Ex.vss_len r]
end
/-- The callback. -/
def cbV (bl bm : Nat) : Value := .func (.func 47) #[] #[.pointer (some ⟨bm, 0, none⟩), .pointer (some ⟨bl, 0, none⟩)]
/-- term.walk over x hands these names on. -/
def Walks (w0 : World) (bl bm mb : Nat) (x : Value) (vs : List ByteArray) : Prop :=
  ∀ (W : World) (L : List ByteArray) (lv : Value), Fut w0 W → VarSt w0.heap.size W bl bm mb L lv → L.length + vs.length ≤ 1000000000 →
    Calls Try.prog 46 #[x, cbV bl bm] W fun e W' => (∃ u, e = .returned u) ∧ ∃ lv', VarSt w0.heap.size W' bl bm mb (vs.foldl addVar L) lv' ∧ Fut w0 W'
theorem addVar_len (L : List ByteArray) (v : ByteArray) : (addVar L v).length ≤ L.length + 1 := by
  unfold addVar
  split
  · omega
  · split
    · omega
    · split
      · omega
      · simp
theorem foldl_len : ∀ (vs L : List ByteArray), (vs.foldl addVar L).length ≤ L.length + vs.length
  | [], L => by simp
  | v :: r, L => by
    rw [List.foldl_cons, List.length_cons]
    have h1 := foldl_len r (addVar L v)
    have h2 := addVar_len L v
    omega
/-- What the callback turns lies from B on. -/
theorem fut_vars {w0 W W' : World} {bl bm mb : Nat} {L : List ByteArray} {lv : Value} (h : VarSt w0.heap.size W bl bm mb L lv) (hF : Fut w0 W) (hO : Only (fun k => vfoot bl mb lv k ∨ W.heap.size ≤ k) W W') : Fut w0 W' := by
  have hs := hF.size
  have h1 : Only (fun k => w0.heap.size ≤ k) w0 W' := (Only.fut hF).trans (hO.mono fun k _ hk => by
    rcases hk with (hk | hk | hk) | hk
    · rw [hk]; exact h.low.1
    · rw [hk]; exact h.low.2.2
    · exact (h.list.block k hk).1
    · omega)
  exact h1.toFut fun k hk => hk
/-- A name more. -/
theorem cb_any {w0 : World} {bl bm mb pb po : Nat} (v : ByteArray) (hp : w0.cell? ⟨pb, po, none⟩ = some (.string v)) (hv : v.size ≤ 140737488351232) {W : World} {L : List ByteArray} {lv : Value} (hF : Fut w0 W) (h : VarSt w0.heap.size W bl bm mb L lv) (hL : L.length ≤ 1000000000) :
    Calls Try.prog 47 #[.pointer (some ⟨pb, po, none⟩), .pointer (some ⟨bm, 0, none⟩), .pointer (some ⟨bl, 0, none⟩)] W fun e W' => (∃ u, e = .returned u) ∧ ∃ lv', VarSt w0.heap.size W' bl bm mb (addVar L v) lv' ∧ Fut w0 W' :=
  (vars1_any v W h (hF.cell hp) hv (by omega) hF.size (lt_of_cell hp)).mono fun e W' ⟨h1, lv', h2, h3, _⟩ => ⟨h1, lv', h2, fut_vars h hF h3⟩
theorem ta_no {P : Program} {x a t e : TypeId} {v : Value} (hu : P.underlying a = some (.pointer e)) (hz : ∀ w, (zeroValue a).run P w = .ok (.pointer none) w) (hne : t ≠ a) (w : World) :
    (Instr.typeAssert (.iface t v) x a true).run P w = .ok (.tuple #[.pointer none, .bool false]) w := by
  simp [Instr.typeAssert, run_underlying hu, hne, hz, Result.andThen]
theorem ta_yes {P : Program} {x a e : TypeId} {v : Value} (hu : P.underlying a = some (.pointer e)) (w : World) :
    (Instr.typeAssert (.iface a v) x a true).run P w = .ok (.tuple #[v, .bool true]) w := by
  simp [Instr.typeAssert, run_underlying hu, Result.andThen]
theorem zpRu (w : World) : (zeroValue 97).run Try.prog w = .ok (.pointer none) w := by kernel_rfl
theorem zpLt (w : World) : (zeroValue 138).run Try.prog w = .ok (.pointer none) w := by kernel_rfl
theorem zpEx (w : World) : (zeroValue 118).run Try.prog w = .ok (.pointer none) w := by kernel_rfl
theorem zpAt (w : World) : (zeroValue 117).run Try.prog w = .ok (.pointer none) w := by kernel_rfl
set_option maxHeartbeats 2000000 in
set_option maxRecDepth 100000 in
theorem walkA_any {w0 : World} {bl bm mb pb po M : Nat} (A : Option Addr) (c : Nat) (ts : List Tm) (h : SlRep 4 M RTm w0 (.slice A ts.length c) ts) (hM : M ≤ 9223372036854775807) (hp : w0.cell? ⟨pb, po + 1, none⟩ = some (.slice A ts.length c)) : Walks w0 bl bm mb (.iface 117 (.pointer (some ⟨pb, po, none⟩))) (ts.map (·.v)) := by
  intro W L lv hF hV hL
  have H := Lib.hid h
  have HF := Lib.hid hF
  have HV := Lib.hid hV
  rw [List.length_map] at hL
  obtain ⟨_, _, hv, hl1, hl2⟩ := h.form
  have hxl : ts.length ≤ 9223372036854775807 := by omega
  have HL := Lib.hid hL
  have y1 := hF.cell hp
  have hpc := Lib.hid hp
  clear h hF hV hL hp hv hl1 hl2
  unfold cbV
  have t1 := @ta_no Try.prog 20 97 117 _ (.pointer (some ⟨pb, po, none⟩)) Try.underlying97 zpRu (by decide)
  have t2 := @ta_no Try.prog 20 138 117 _ (.pointer (some ⟨pb, po, none⟩)) Try.underlying138 zpLt (by decide)
  have t3 := @ta_no Try.prog 20 118 117 _ (.pointer (some ⟨pb, po, none⟩)) Try.underlying118 zpEx (by decide)
  have t4 := @ta_yes Try.prog 20 117 _ (.pointer (some ⟨pb, po, none⟩)) Try.underlying117
  go_enter Try.func46, Try.ntmps46
  go_wp2_with fail
  clear t1 t2 t3 t4
  go_loopw [107] (fun i wr => ∃ k : Nat, k ≤ ts.length ∧ i = .int .i64 k ∧ Hid (Fut w0 wr) ∧ Hid (∃ lv', VarSt w0.heap.size wr bl bm mb (((ts.take k).map (·.v)).foldl addVar L) lv')) (fun i _ => ts.length - (intOf i).toNat)
  case atStart => exact ⟨0, Nat.zero_le _, rfl, HF, Lib.hid ⟨lv, HV.out⟩⟩
  case round =>
    obtain ⟨k, hk, rfl, hF, hV⟩ := hrel
    by_cases hlt : k < ts.length
    · have hltI : (k : Int) < ts.length := by omega
      have e0 : (0 : Int) ≤ k ∧ (k : Int) < ts.length := by omega
      obtain ⟨b, off, rfl, hok, y0, _, _, _⟩ := tm_at H.out hlt
      have hnx : Hid ((ts.take (k + 1)).map (·.v) = (ts.take k).map (·.v) ++ [(ts[k]).v]) := Lib.hid (by rw [List.take_succ_eq_append_getElem hlt, List.map_append]; rfl)
      obtain ⟨lv1, hV1⟩ := hV.out
      have hln := foldl_len ((ts.take k).map (·.v)) L
      rw [List.length_map, List.length_take] at hln
      have hL9 := HL.out
      have HC := Lib.hid (cb_any (ts[k]).v y0 hok.1 hF.out hV1 (by omega))
      have z1 := hF.out.cell hpc.out
      clear hV1 hln hok y0 hV hL9
      generalize (ts[k]).v = v at *
      go_wp2_with fail
      refine HC.out.mono ?_
      rintro e w3 ⟨⟨u, rfl⟩, lv2, hV2, hF2⟩
      have HV2 := Lib.hid (show ∃ lv', VarSt w0.heap.size w3 bl bm mb (((ts.take (k + 1)).map (·.v)).foldl addVar L) lv' from ⟨lv2, by rw [hnx.out, List.foldl_append]; exact hV2⟩)
      have HF2 := Lib.hid hF2
      clear hV2 hF2
      go_wp2
      go_roundw
      case rel => exact ⟨k + 1, by omega, by go_num, HF2, HV2⟩
      case measure => simp [intOf] <;> omega
    · obtain rfl : k = ts.length := by omega
      rw [List.take_length] at hV
      go_wp2
      go_end0
      exact ⟨⟨_, rfl⟩, by obtain ⟨lv', h9⟩ := hV.out; exact ⟨lv', h9, hF.out⟩⟩
theorem vss_take {l : List Ex} {k : Nat} (hk : k < l.length) : Ex.vss (l.take (k + 1)) = Ex.vss (l.take k) ++ (l[k]).vs := by
  rw [vss_flat, vss_flat, List.take_succ_eq_append_getElem hk, List.flatMap_append]; simp
theorem vss_le {l : List Ex} {k : Nat} (hk : k < l.length) : (Ex.vss (l.take k)).length + (l[k]).vs.length ≤ (Ex.vss l).length := by
  have h1 : (Ex.vss l).length = (Ex.vss (l.take (k + 1))).length + (Ex.vss (l.drop (k + 1))).length := by
    rw [← List.length_append, vss_flat, vss_flat, vss_flat, ← List.flatMap_append, List.take_append_drop]
  rw [vss_take hk, List.length_append] at h1
  omega
set_option maxHeartbeats 2000000 in
set_option maxRecDepth 100000 in
theorem walkE_any {w0 : World} {bl bm mb : Nat} : ∀ (n : Nat) (x : Ex) (cs : List Value) (pb po : Nat), RE n w0 cs x → (∀ j c, cs[j]? = some c → w0.cell? ⟨pb, po + j, none⟩ = some c) → Walks w0 bl bm mb (.iface 118 (.pointer (some ⟨pb, po, none⟩))) x.vs
  | 0, _, _, _, _, h, _ => h.elim
  | n + 1, .mk op t ks, cs, pb, po, h, hcs => by
    intro W L lv hF hV hL
    obtain ⟨kv, rfl, h2, hok, hks⟩ := h
    obtain ⟨A, c, rfl, hl1, hl2⟩ := hks.form
    have y1 := hcs 1 _ rfl
    have y5 := hcs 5 _ rfl
    have H := Lib.hid hks
    have HF := Lib.hid hF
    rw [Ex.vs, List.length_cons] at hL
    have HL := Lib.hid hL
    have hxl : ks.length ≤ 9223372036854775807 := by omega
    have HC := Lib.hid (cb_any t.v y1 hok.1 hF hV (by omega))
    have z5 := Lib.hid y5
    have IH := Lib.hid (fun (k : Nat) (hk : k < ks.length) (pb' po' : Nat) (cs' : List Value) (h : RE n w0 cs' ks[k]) (hc : ∀ j c, cs'[j]? = some c → w0.cell? ⟨pb', po' + j, none⟩ = some c) => walkE_any (bl := bl) (bm := bm) (mb := mb) n ks[k] cs' pb' po' h hc)
    unfold Ex.vs
    clear hks hF hV hL y5 hcs hok hl1 h2
    generalize t.v = v at *
    clear t
    unfold cbV
    have t1 := @ta_no Try.prog 20 97 118 _ (.pointer (some ⟨pb, po, none⟩)) Try.underlying97 zpRu (by decide)
    have t2 := @ta_no Try.prog 20 138 118 _ (.pointer (some ⟨pb, po, none⟩)) Try.underlying138 zpLt (by decide)
    have t3 := @ta_yes Try.prog 20 118 _ (.pointer (some ⟨pb, po, none⟩)) Try.underlying118
    go_enter Try.func46, Try.ntmps46
    go_wp2_with fail
    refine HC.out.mono ?_
    rintro e w1 ⟨⟨u, rfl⟩, lv1, hV1, hF1⟩
    clear t1 t2 t3
    have HF1 := Lib.hid hF1
    have HV1 := Lib.hid hV1
    have y5 := hF1.cell z5.out
    clear hV1 hF1
    go_wp2_with fail
    go_loopw [86] (fun i wr => ∃ k : Nat, k ≤ ks.length ∧ i = .int .i64 k ∧ Hid (Fut w0 wr) ∧ Hid (∃ lv', VarSt w0.heap.size wr bl bm mb ((Ex.vss (ks.take k)).foldl addVar (addVar L v)) lv')) (fun i _ => ks.length - (intOf i).toNat)
    case atStart => exact ⟨0, Nat.zero_le _, rfl, HF1, Lib.hid ⟨lv1, HV1.out⟩⟩
    case round =>
      obtain ⟨k, hk, rfl, hF, hV⟩ := hrel
      by_cases hlt : k < ks.length
      · have hltI : (k : Int) < ks.length := by omega
        have e0 : (0 : Int) ≤ k ∧ (k : Int) < ks.length := by omega
        obtain ⟨A1, cap1, hv, _, _, h3⟩ := H.out
        obtain ⟨b, off, cs, hA, hl, hc, hr⟩ := h3 k _ (List.getElem?_eq_getElem hlt)
        injection hv with hv hc1 hc2
        clear hc1 hc2
        obtain rfl := hv.trans hA
        have hst := Lib.hid (vss_take hlt)
        obtain ⟨lv2, hV2⟩ := hV.out
        have hln := foldl_len (Ex.vss (ks.take k)) (addVar L v)
        have hl9 := addVar_len L v
        have hL9 := HL.out
        have hL8 := vss_le hlt
        have HI := Lib.hid (IH.out k hlt b (off + k * 6) cs hr (fun j c hj => by rw [Nat.add_assoc]; exact hc j c hj) wr _ lv2 hF.out hV2 (by omega))
        have z1 := hF.out.cell z5.out
        clear hV2 hln hl9 hL9 hL8 h3 hc hr hV hl hv hA
        generalize (ks[k]).vs = vs at *
        unfold cbV at HI
        go_wp2_with fail
        refine HI.out.mono ?_
        rintro e w3 ⟨⟨u, rfl⟩, lv2, hV2, hF2⟩
        have HV2 := Lib.hid (show ∃ lv', VarSt w0.heap.size w3 bl bm mb ((Ex.vss (ks.take (k + 1))).foldl addVar (addVar L v)) lv' from ⟨lv2, by rw [hst.out, List.foldl_append]; exact hV2⟩)
        have HF2 := Lib.hid hF2
        clear hV2 hF2
        go_wp2
        go_roundw
        case rel => exact ⟨k + 1, by omega, by go_num, HF2, HV2⟩
        case measure => simp [intOf] <;> omega
      · obtain rfl : k = ks.length := by omega
        rw [List.take_length] at hV
        go_wp2
        go_end0
        exact ⟨⟨_, rfl⟩, by obtain ⟨lv', h9⟩ := hV.out; exact ⟨lv', h9, hF.out⟩⟩
end Go.Proofs.Ytcpphabehpbmlaa
/- term.walk with the callback of term.vars: literals, rules; term.vars. -/
namespace Go.Proofs.Ytcpphabehpbmlaa
open Go.RowKit Go.WideMaps Go.Maps
set_option linter.unusedSimpArgs false
set_option linter.unusedVariables false

def Lt.vs (x : Lt) : List ByteArray := x.a.map (·.v) ++ (x.l.vs ++ x.d.vs)
set_option maxHeartbeats 2000000 in
set_option maxRecDepth 100000 in
theorem walkL_any {w0 : World} {bl bm mb pb po : Nat} (x : Lt) (A : Option Addr) (c : Nat) (kl kd : Value) (h : LtC w0 x (.slice A x.a.length c) kl kd) (hp : ∀ j c', (x.cs (.slice A x.a.length c) kl kd)[j]? = some c' → w0.cell? ⟨pb, po + j, none⟩ = some c') : Walks w0 bl bm mb (.iface 138 (.pointer (some ⟨pb, po, none⟩))) x.vs := by
  intro W L lv hF hV hL
  unfold Lt.vs at hL ⊢
  rw [List.length_append, List.length_append, List.length_map] at hL
  obtain ⟨n1, h1⟩ := h.left
  obtain ⟨n2, h2⟩ := h.right
  have WA := Lib.hid (walkA_any (bl := bl) (bm := bm) (mb := mb) (pb := pb) (po := po + 1) A c x.a h.args (by omega) (hp 2 _ rfl))
  have WL := Lib.hid (walkE_any (bl := bl) (bm := bm) (mb := mb) n1 x.l _ pb (po + 4) h1 (fun j c' hj => by
    have hlt : j < 6 := (List.getElem?_eq_some_iff.1 hj).1
    rw [Nat.add_assoc]
    refine hp (4 + j) c' ?_
    match j, hlt, hj with
    | 0, _, hj => exact hj
    | 1, _, hj => exact hj
    | 2, _, hj => exact hj
    | 3, _, hj => exact hj
    | 4, _, hj => exact hj
    | 5, _, hj => exact hj))
  have WR := Lib.hid (walkE_any (bl := bl) (bm := bm) (mb := mb) n2 x.d _ pb (po + 10) h2 (fun j c' hj => by
    have hlt : j < 6 := (List.getElem?_eq_some_iff.1 hj).1
    rw [Nat.add_assoc]
    refine hp (10 + j) c' ?_
    match j, hlt, hj with
    | 0, _, hj => exact hj
    | 1, _, hj => exact hj
    | 2, _, hj => exact hj
    | 3, _, hj => exact hj
    | 4, _, hj => exact hj
    | 5, _, hj => exact hj))
  have hlA := foldl_len (x.a.map (·.v)) L
  have hlL := foldl_len x.l.vs ((x.a.map (·.v)).foldl addVar L)
  rw [List.length_map] at hlA
  have HA := Lib.hid (WA.out W L lv hF hV (by rw [List.length_map]; omega))
  have hL1 : ((x.a.map (·.v)).foldl addVar L).length + x.l.vs.length ≤ 1000000000 := by omega
  have hL2 : (x.l.vs.foldl addVar ((x.a.map (·.v)).foldl addVar L)).length + x.d.vs.length ≤ 1000000000 := by omega
  rw [List.foldl_append, List.foldl_append]
  clear h h1 h2 hp hlA hlL WA hL hF hV
  generalize x.a.map (·.v) = va at *
  generalize x.l.vs = vl at *
  generalize x.d.vs = vd at *
  unfold cbV at HA
  have t1 := @ta_no Try.prog 20 97 138 _ (.pointer (some ⟨pb, po, none⟩)) Try.underlying97 zpRu (by decide)
  have t2 := @ta_yes Try.prog 20 138 _ (.pointer (some ⟨pb, po, none⟩)) Try.underlying138
  unfold cbV
  go_enter Try.func46, Try.ntmps46
  go_wp2_with fail
  refine HA.out.mono ?_
  rintro e w1 ⟨⟨u, rfl⟩, lv1, hV1, hF1⟩
  clear t1 t2
  have HL := Lib.hid (WL.out w1 _ lv1 hF1 hV1 hL1)
  unfold cbV at HL
  clear hV1 hF1
  go_wp2_with fail
  refine HL.out.mono ?_
  rintro e w2 ⟨⟨u, rfl⟩, lv2, hV2, hF2⟩
  have HR := Lib.hid (WR.out w2 _ lv2 hF2 hV2 hL2)
  unfold cbV at HR
  clear hV2 hF2
  go_wp2_with fail
  refine HR.out.mono ?_
  rintro e w3 ⟨⟨u, rfl⟩, lv3, hV3, hF3⟩
  have H3 := Lib.hid (And.intro hV3 hF3)
  clear hV3 hF3
  go_wp2
  go_end0
  exact ⟨⟨_, rfl⟩, lv3, H3.out⟩
def Ru.hs (r : Ru) : List ByteArray := r.h.map (·.t.v)
def Ru.bs (r : Ru) : List ByteArray := r.b.flatMap Lt.vs
theorem bs_take {l : List Lt} {k : Nat} (hk : k < l.length) : (l.take (k + 1)).flatMap Lt.vs = (l.take k).flatMap Lt.vs ++ (l[k]).vs := by
  rw [List.take_succ_eq_append_getElem hk, List.flatMap_append]; simp
theorem bs_le {l : List Lt} {k : Nat} (hk : k < l.length) : ((l.take k).flatMap Lt.vs).length + (l[k]).vs.length ≤ (l.flatMap Lt.vs).length := by
  have h1 : (l.flatMap Lt.vs).length = ((l.take (k + 1)).flatMap Lt.vs).length + ((l.drop (k + 1)).flatMap Lt.vs).length := by
    rw [← List.length_append, ← List.flatMap_append, List.take_append_drop]
  rw [bs_take hk, List.length_append] at h1
  omega
theorem ar_at {M : Nat} {w : World} {A : Option Addr} {n cap : Nat} {xs : List Ar} (h : SlRep 5 M RAr w (.slice A n cap) xs) {k : Nat} (hk : k < xs.length) :
    ∃ b off, A = some ⟨b, off, none⟩ ∧ (Lit.int .i8 (xs[k]).g).wf = true ∧ (xs[k]).t.ok ∧ w.cell? ⟨b, off + k * 5, none⟩ = some (.int .i8 (xs[k]).g) ∧ w.cell? ⟨b, off + k * 5 + 1, none⟩ = some (.string (xs[k]).t.v) ∧ w.cell? ⟨b, off + k * 5 + 2, none⟩ = some (.int .i8 (xs[k]).t.x.k) ∧ w.cell? ⟨b, off + k * 5 + 3, none⟩ = some (.int .i64 (xs[k]).t.x.n) ∧ w.cell? ⟨b, off + k * 5 + 4, none⟩ = some (.string (xs[k]).t.x.s) := by
  obtain ⟨A1, cap1, hv, _, _, h3⟩ := h
  obtain ⟨b, off, cs, hA, hl, hc, hr, hg, hok⟩ := h3 k _ (List.getElem?_eq_getElem hk)
  injection hv with hv _ _
  subst hr
  exact ⟨b, off, hv.trans hA, hg, hok, hc 0 _ rfl, hc 1 _ rfl, hc 2 _ rfl, hc 3 _ rfl, hc 4 _ rfl⟩
set_option maxHeartbeats 2000000 in
set_option maxRecDepth 100000 in
theorem walkR_any {w0 : World} {bl bm mb pb po : Nat} (x : Ru) (Ah Ab : Option Addr) (ch cb : Nat) (h1 : SlRep 5 2513169434916 RAr w0 (.slice Ah x.h.length ch) x.h) (h2 : SlRep 16 651562446089 RLt w0 (.slice Ab x.b.length cb) x.b) (p1 : w0.cell? ⟨pb, po + 1, none⟩ = some (.slice Ah x.h.length ch)) (p2 : w0.cell? ⟨pb, po + 2, none⟩ = some (.slice Ab x.b.length cb)) : Walks w0 bl bm mb (.iface 97 (.pointer (some ⟨pb, po, none⟩))) (x.hs ++ x.bs) := by
  intro W L lv hF hV hL
  unfold Ru.hs Ru.bs at hL ⊢
  rw [List.length_append, List.length_map] at hL
  rw [List.foldl_append]
  have hh := h1.len
  have hb := h2.len
  have H1 := Lib.hid h1
  have H2 := Lib.hid h2
  have P1 := Lib.hid p1
  have P2 := Lib.hid p2
  have HF := Lib.hid hF
  have HV := Lib.hid hV
  have HL := Lib.hid hL
  have y1 := hF.cell p1
  generalize x.h = xh at *
  generalize x.b = xb at *
  clear h1 h2 p1 p2 hF hV hL
  have t1 := @ta_yes Try.prog 20 97 _ (.pointer (some ⟨pb, po, none⟩)) Try.underlying97
  unfold cbV
  go_enter Try.func46, Try.ntmps46
  go_wp2_with fail
  clear t1
  go_loopw [21] (fun i wr => ∃ k : Nat, k ≤ xh.length ∧ i = .int .i64 k ∧ Hid (Fut w0 wr) ∧ Hid (∃ lv', VarSt w0.heap.size wr bl bm mb (((xh.take k).map (·.t.v)).foldl addVar L) lv')) (fun i _ => xh.length - (intOf i).toNat)
  case atStart => exact ⟨0, Nat.zero_le _, rfl, HF, Lib.hid ⟨lv, HV.out⟩⟩
  case round =>
    obtain ⟨k, hk, rfl, hF, hV⟩ := hrel
    by_cases hlt : k < xh.length
    · have hltI : (k : Int) < xh.length := by omega
      have e0 : (0 : Int) ≤ k ∧ (k : Int) < xh.length := by omega
      obtain ⟨b, off, rfl, _, hok, _, y1', _, _, _⟩ := ar_at H1.out hlt
      have hnx : Hid ((xh.take (k + 1)).map (·.t.v) = (xh.take k).map (·.t.v) ++ [(xh[k]).t.v]) := Lib.hid (by rw [List.take_succ_eq_append_getElem hlt, List.map_append]; rfl)
      obtain ⟨lv1, hV1⟩ := hV.out
      have hln := foldl_len ((xh.take k).map (·.t.v)) L
      rw [List.length_map, List.length_take] at hln
      have hL9 := HL.out
      have HC := Lib.hid (cb_any (xh[k]).t.v y1' hok.1 hF.out hV1 (by omega))
      have z1 := hF.out.cell P1.out
      clear hV1 hln hok y1' hV hL9
      generalize (xh[k]).t.v = v at *
      go_wp2_with fail
      refine HC.out.mono ?_
      rintro e w3 ⟨⟨u, rfl⟩, lv2, hV2, hF2⟩
      have HV2 := Lib.hid (show ∃ lv', VarSt w0.heap.size w3 bl bm mb (((xh.take (k + 1)).map (·.t.v)).foldl addVar L) lv' from ⟨lv2, by rw [hnx.out, List.foldl_append]; exact hV2⟩)
      have HF2 := Lib.hid hF2
      clear hV2 hF2
      go_wp2
      go_roundw
      case rel => exact ⟨k + 1, by omega, by go_num, HF2, HV2⟩
      case measure => simp [intOf] <;> omega
    · obtain rfl : k = xh.length := by omega
      rw [List.take_length] at hV
      have hlH := foldl_len (xh.map (·.t.v)) L
      rw [List.length_map] at hlH
      have hlH2 : ((xh.map (·.t.v)).foldl addVar L).length + (xb.flatMap Lt.vs).length ≤ 1000000000 := by have := HL.out; omega
      replace hlH2 := Lib.hid hlH2
      clear hlH HL
      obtain ⟨L1, hL1⟩ : ∃ L1, (xh.map (·.t.v)).foldl addVar L = L1 := ⟨_, rfl⟩
      rw [hL1] at hlH2 hV
      replace hL1 := Lib.hid hL1
      have z2 := hF.out.cell P2.out
      have HF1 := Lib.hid hF.out
      have HV1 := Lib.hid hV.out
      clear hF hV
      go_wp2_with fail
      go_loopw [39] (fun i wr => ∃ k : Nat, k ≤ xb.length ∧ i = .int .i64 k ∧ Hid (Fut w0 wr) ∧ Hid (∃ lv', VarSt w0.heap.size wr bl bm mb (((xb.take k).flatMap Lt.vs).foldl addVar L1) lv')) (fun i _ => xb.length - (intOf i).toNat)
      case atStart => exact ⟨0, Nat.zero_le _, rfl, HF1, Lib.hid HV1.out⟩
      case round =>
        obtain ⟨k, hk, rfl, hF, hV⟩ := hrel
        by_cases hlt : k < xb.length
        · have hltI : (k : Int) < xb.length := by omega
          have e0 : (0 : Int) ≤ k ∧ (k : Int) < xb.length := by omega
          obtain ⟨b, off, A', c, Al, l', cl, Ad, d', cd, rfl, hcs, _, _, g3⟩ := lt_at H2.out hlt
          have hst := Lib.hid (bs_take hlt)
          obtain ⟨lv2, hV2⟩ := hV.out
          have hln := foldl_len ((xb.take k).flatMap Lt.vs) L1
          have hL9 := hlH2.out
          have hL8 := bs_le hlt
          have HI := Lib.hid (walkL_any xb[k] A' c _ _ g3 hcs wr _ lv2 hF.out hV2 (by omega))
          have z1 := hF.out.cell P2.out
          clear hV2 hln hL9 hL8 hcs g3 hV
          generalize (xb[k]).vs = vs at *
          unfold cbV at HI
          go_wp2_with fail
          refine HI.out.mono ?_
          rintro e w3 ⟨⟨u, rfl⟩, lv2, hV2, hF2⟩
          have HV2 := Lib.hid (show ∃ lv', VarSt w0.heap.size w3 bl bm mb (((xb.take (k + 1)).flatMap Lt.vs).foldl addVar L1) lv' from ⟨lv2, by rw [hst.out, List.foldl_append]; exact hV2⟩)
          have HF2 := Lib.hid hF2
          clear hV2 hF2
          go_wp2
          go_roundw
          case rel => exact ⟨k + 1, by omega, by go_num, HF2, HV2⟩
          case measure => simp [intOf] <;> omega
        · obtain rfl : k = xb.length := by omega
          rw [List.take_length] at hV
          go_wp2
          go_end0
          exact ⟨⟨_, rfl⟩, by obtain ⟨lv', h9⟩ := hV.out; exact ⟨lv', by rw [hL1.out]; exact h9, hF.out⟩⟩
theorem var_new (w : World) : VarSt w.heap.size (((w.alloc (.cells #[.slice none 0 0] tVl')).alloc (.map #[] 0)).alloc (.cells #[.map (some (w.heap.size + 1))] tVm)) w.heap.size (w.heap.size + 2) (w.heap.size + 1) [] (.slice none 0 0) := by
  have h0 := heap_alloc_new w (.cells #[.slice none 0 0] tVl')
  have s1 : (w.alloc (.cells #[.slice none 0 0] tVl')).heap.size = w.heap.size + 1 := by simp
  have s2 : ((w.alloc (.cells #[.slice none 0 0] tVl')).alloc (.map #[] 0)).heap.size = w.heap.size + 2 := by simp
  have h1 := MapE.new (kv := strV) (w.alloc (.cells #[.slice none 0 0] tVl'))
  rw [s1] at h1
  have h2 := heap_alloc_new ((w.alloc (.cells #[.slice none 0 0] tVl')).alloc (.map #[] 0)) (.cells #[.map (some (w.heap.size + 1))] tVm)
  rw [s2] at h2
  refine ⟨((Fut.alloc (w.alloc (.cells #[.slice none 0 0] tVl')) (.map #[] 0)).trans (Fut.alloc _ _)).block h0, OwnL.nil, h2, h1.fut (Fut.alloc _ _), fun s hs => (by cases hs), by omega, by omega, by omega⟩
set_option maxHeartbeats 2000000 in
set_option maxRecDepth 100000 in
theorem vars_of {w : World} (x : Value) (vs : List ByteArray) (hl : vs.length ≤ 1000000000) (h : Walks w w.heap.size (w.heap.size + 2) (w.heap.size + 1) x vs) :
    Calls Try.prog 34 #[x] w fun e w' => ∃ v, e = .returned v ∧ OwnL 1 w.heap.size 9 RNm w' v (vs.foldl addVar []) ∧ Fut w w' := by
  have H := Lib.hid (h _ [] (.slice none 0 0) (((Fut.alloc w (.cells #[.slice none 0 0] tVl')).trans (Fut.alloc _ (.map #[] 0))).trans (Fut.alloc _ (.cells #[.map (some (w.heap.size + 1))] tVm))) (var_new w) (by simpa using hl))
  unfold cbV at H
  clear h
  go_enter Try.func34, Try.ntmps34
  have hmm := @run_makeMap Try.prog
  go_wp2_with fail
  refine H.out.mono ?_
  rintro e w1 ⟨⟨u, rfl⟩, lv1, hV1, hF1⟩
  have y1 := cell_at hV1.lcell 0 _ rfl
  have HL := Lib.hid hV1.list
  have HF := Lib.hid hF1
  clear hV1 hF1
  go_wp2
  go_ret
  exact ⟨_, rfl, HL.out, HF.out⟩
end Go.Proofs.Ytcpphabehpbmlaa
/- term.AtomVars, ExprVars, RuleVars, CheckRule. -/
namespace Go.Proofs.Ytcpphabehpbmlaa
open Go.RowKit Go.WideMaps Go.Maps
set_option linter.unusedSimpArgs false
set_option linter.unusedVariables false

def ddVs (l : List ByteArray) : List ByteArray := l.foldl addVar []
def Ex.vars (x : Ex) : List ByteArray := ddVs x.vs
def tmVars (ts : List Tm) : List ByteArray := ddVs (ts.map (·.v))
def Ru.vars (r : Ru) : List ByteArray := ddVs (r.hs ++ r.bs)
abbrev Nms (B : Nat) : World → Value → List ByteArray → Prop := OwnL 1 B 9 RNm
set_option maxHeartbeats 1000000 in
theorem atomVars_any (p : ByteArray) (A : Option Addr) (c M : Nat) (ts : List Tm) (w : World) (h : SlRep 4 M RTm w (.slice A ts.length c) ts) (hM : M ≤ 9223372036854775807) (hl : ts.length ≤ 1000000000) :
    Calls Try.prog 28 #[.agg #[.string p, .slice A ts.length c]] w fun e w' => ∃ v, e = .returned v ∧ Nms w.heap.size w' v (tmVars ts) ∧ Fut w w' := by
  have hb := heap_alloc_new w (.cells #[.string p, .slice A ts.length c] 54)
  have f0 := Fut.alloc w (.cells #[.string p, .slice A ts.length c] 54)
  have hs : (w.alloc (.cells #[.string p, .slice A ts.length c] 54)).heap.size = w.heap.size + 1 := by simp
  have HV := Lib.hid (vars_of (w := w.alloc (.cells #[.string p, .slice A ts.length c] 54)) _ (ts.map (·.v)) (by rw [List.length_map]; exact hl) (walkA_any (pb := w.heap.size) (po := 0) A c ts (h.fut RTm.stays f0) hM (cell_at hb 1 (.slice A ts.length c) rfl)))
  rw [hs] at HV
  clear h hb hs
  replace f0 := Lib.hid f0
  generalize ts.length = n at *
  go_enter Try.func28, Try.ntmps28
  go_wp2_with fail
  refine HV.out.mono ?_
  rintro e w1 ⟨v, rfl, h1, f1⟩
  have H1 := Lib.hid (And.intro (h1.base (Nat.le_succ _)) (f0.out.trans f1))
  clear h1 f1
  go_wp2
  go_ret
  exact ⟨_, rfl, H1.out⟩
set_option maxHeartbeats 1000000 in
theorem exprVars_any (x : Ex) (A : Option Addr) (c n : Nat) (w : World) (h : RE n w (x.cs (.slice A x.kids.length c)) x) (hl : x.size ≤ 1000000000) :
    Calls Try.prog 30 #[.agg (x.cs (.slice A x.kids.length c)).toArray] w fun e w' => ∃ v, e = .returned v ∧ Nms w.heap.size w' v x.vars ∧ Fut w w' := by
  have hb := heap_alloc_new w (.cells (x.cs (.slice A x.kids.length c)).toArray 59)
  have f0 := Fut.alloc w (.cells (x.cs (.slice A x.kids.length c)).toArray 59)
  have hs : (w.alloc (.cells (x.cs (.slice A x.kids.length c)).toArray 59)).heap.size = w.heap.size + 1 := by simp
  have HV := Lib.hid (vars_of (w := w.alloc (.cells (x.cs (.slice A x.kids.length c)).toArray 59)) _ x.vs (by rw [Ex.vs_len]; exact hl) (walkE_any n x _ w.heap.size 0 (RE.stays n _ _ _ _ f0 h) (fun j c' hj => by
    rw [Nat.zero_add]
    exact cell_at hb j c' (by simpa using hj))))
  rw [hs] at HV
  clear h hb hs
  replace f0 := Lib.hid f0
  unfold Ex.cs at *
  generalize x.kids.length = n at *
  generalize x.op = o at *
  generalize x.t = t at *
  go_enter Try.func30, Try.ntmps30
  go_wp2_with fail
  refine HV.out.mono ?_
  rintro e w1 ⟨v, rfl, h1, f1⟩
  have H1 := Lib.hid (And.intro (h1.base (Nat.le_succ _)) (f0.out.trans f1))
  clear h1 f1
  go_wp2
  go_ret
  exact ⟨_, rfl, H1.out⟩
set_option maxHeartbeats 1000000 in
theorem ruleVars_any (x : Ru) (Ah Ab : Option Addr) (ch cb : Nat) (w : World) (h1 : SlRep 5 2513169434916 RAr w (.slice Ah x.h.length ch) x.h) (h2 : SlRep 16 651562446089 RLt w (.slice Ab x.b.length cb) x.b) (hl : x.hs.length + x.bs.length ≤ 1000000000) :
    Calls Try.prog 17 #[.agg #[.string x.p, .slice Ah x.h.length ch, .slice Ab x.b.length cb]] w fun e w' => ∃ v, e = .returned v ∧ Nms w.heap.size w' v x.vars ∧ Fut w w' := by
  have hb := heap_alloc_new w (.cells #[.string x.p, .slice Ah x.h.length ch, .slice Ab x.b.length cb] 31)
  have f0 := Fut.alloc w (.cells #[.string x.p, .slice Ah x.h.length ch, .slice Ab x.b.length cb] 31)
  have hs : (w.alloc (.cells #[.string x.p, .slice Ah x.h.length ch, .slice Ab x.b.length cb] 31)).heap.size = w.heap.size + 1 := by simp
  have HV := Lib.hid (vars_of (w := w.alloc (.cells #[.string x.p, .slice Ah x.h.length ch, .slice Ab x.b.length cb] 31)) _ (x.hs ++ x.bs) (by rw [List.length_append]; exact hl) (walkR_any (pb := w.heap.size) (po := 0) x Ah Ab ch cb (h1.fut RAr.stays f0) (h2.fut RLt.stays f0) (cell_at hb 1 (.slice Ah x.h.length ch) rfl) (cell_at hb 2 (.slice Ab x.b.length cb) rfl)))
  rw [hs] at HV
  clear h1 h2 hb hs
  replace f0 := Lib.hid f0
  generalize x.h.length = n at *
  generalize x.b.length = m at *
  generalize x.p = p at *
  go_enter Try.func17, Try.ntmps17
  go_wp2_with fail
  refine HV.out.mono ?_
  rintro e w1 ⟨v, rfl, h1, f1⟩
  have H1 := Lib.hid (And.intro (h1.base (Nat.le_succ _)) (f0.out.trans f1))
  clear h1 f1
  go_wp2
  go_ret
  exact ⟨_, rfl, H1.out⟩
def Ru.good (r : Ru) : Bool := nameT r.p && decide (r.h.length ≤ 24) && decide (r.b.length ≤ 16) && r.h.all Ar.good && r.b.all Lt.good && decide (r.vars.length ≤ 24)
end Go.Proofs.Ytcpphabehpbmlaa
/- term.CheckRule. -/
namespace Go.Proofs.Ytcpphabehpbmlaa
open Go.RowKit Go.WideMaps Go.Maps
set_option linter.unusedSimpArgs false
set_option linter.unusedVariables false

set_option maxHeartbeats 2000000 in
set_option maxRecDepth 100000 in
theorem checkR_any (x : Ru) (Ah Ab : Option Addr) (ch cb : Nat) (w : World) (hp : x.p.size ≤ 140737488351232) (h1 : SlRep 5 2513169434916 RAr w (.slice Ah x.h.length ch) x.h) (h2 : SlRep 16 651562446089 RLt w (.slice Ab x.b.length cb) x.b) (hl : x.hs.length + x.bs.length ≤ 1000000000) :
    Calls Try.prog 26 #[.agg #[.string x.p, .slice Ah x.h.length ch, .slice Ab x.b.length cb]] w fun e w' => e = .returned (.int .i64 (if x.good = true then 0 else 40)) ∧ Fut w w' := by
  have HN := Lib.hid (fun W => nameT_any x.p W hp)
  have HV := Lib.hid (fun W (hW : Fut w W) => ruleVars_any x Ah Ab ch cb W (h1.fut RAr.stays hW) (h2.fut RLt.stays hW) hl)
  have hh := h1.len
  have hb := h2.len
  have H1 := Lib.hid h1
  have H2 := Lib.hid h2
  obtain ⟨b, hgb⟩ : ∃ b, x.good = b := ⟨_, rfl⟩
  rw [hgb]
  unfold Ru.good at hgb
  clear h1 h2 hl
  obtain ⟨nm, hnm⟩ : ∃ nm, nameT x.p = nm := ⟨_, rfl⟩
  rw [hnm] at HN hgb
  clear hnm
  generalize x.vars = vars at *
  obtain ⟨p, xh, xb⟩ := x
  dsimp only at *
  have hbx := heap_alloc_new w (.cells #[.string p, .slice Ah xh.length ch, .slice Ab xb.length cb] 31)
  have FB := Lib.hid (Fut.alloc w (.cells #[.string p, .slice Ah xh.length ch, .slice Ab xb.length cb] 31))
  replace hgb := Lib.hid hgb
  cases nm
  · obtain rfl : b = false := by rw [← hgb.out]; simp
    go_enter Try.func26, Try.ntmps26
    go_wp2_with fail
    refine (HN.out _).mono ?_
    rintro e w1 ⟨rfl, f1⟩
    go_wp2
    go_ret
    exact ⟨by first | rfl | simp, FB.out.trans f1⟩
  by_cases hlh : xh.length ≤ 24
  rotate_left
  · obtain rfl : b = false := by rw [← hgb.out]; simp [hlh]
    have hlI : (xh.length : Int) > 24 := by omega
    go_enter Try.func26, Try.ntmps26
    go_wp2_with fail
    refine (HN.out _).mono ?_
    rintro e w1 ⟨rfl, f1⟩
    have y1 := cell_at (f1.block hbx) 1 (.slice Ah xh.length ch) rfl
    go_wp2
    go_ret
    exact ⟨by first | rfl | simp, FB.out.trans f1⟩
  by_cases hlb : xb.length ≤ 16
  rotate_left
  · obtain rfl : b = false := by rw [← hgb.out]; simp [hlb]
    have hlI : ¬ (xh.length : Int) > 24 := by omega
    have hlJ : (xb.length : Int) > 16 := by omega
    have hlN : ¬ 24 < xh.length := by omega
    go_enter Try.func26, Try.ntmps26
    go_wp2_with fail
    refine (HN.out _).mono ?_
    rintro e w1 ⟨rfl, f1⟩
    have y1 := cell_at (f1.block hbx) 1 (.slice Ah xh.length ch) rfl
    have y2 := cell_at (f1.block hbx) 2 (.slice Ab xb.length cb) rfl
    go_wp2
    go_ret
    exact ⟨by first | rfl | simp, FB.out.trans f1⟩
  have hlI : ¬ (xh.length : Int) > 24 := by omega
  have hlJ : ¬ (xb.length : Int) > 16 := by omega
  have hlN : ¬ 24 < xh.length := by omega
  have hlM : ¬ 16 < xb.length := by omega
  replace hgb := Lib.hid (show (xh.all Ar.good && xb.all Lt.good && decide (vars.length ≤ 24)) = b by rw [← hgb.out]; simp [hlh, hlb])
  go_enter Try.func26, Try.ntmps26
  go_wp2_with fail
  refine (HN.out _).mono ?_
  rintro e w1 ⟨rfl, f1⟩
  have y1 := cell_at (f1.block hbx) 1 (.slice Ah xh.length ch) rfl
  have y2 := cell_at (f1.block hbx) 2 (.slice Ab xb.length cb) rfl
  have HB := Lib.hid (f1.block hbx)
  have F1 := Lib.hid (FB.out.trans f1)
  clear f1 hbx
  go_wp2_with fail
  go_loopw [27] (fun i wr => ∃ k : Nat, k ≤ xh.length ∧ i = .int .i64 k ∧ Hid (Fut w wr) ∧ Hid (Fut w1 wr) ∧ Hid (∀ y ∈ xh.take k, y.good = true)) (fun i _ => xh.length - (intOf i).toNat)
  case atStart => exact ⟨0, Nat.zero_le _, rfl, F1, Lib.hid (Fut.refl _), Lib.hid (fun y hy => by simp at hy)⟩
  case round =>
    obtain ⟨k, hk, rfl, hF, hG, hA⟩ := hrel
    by_cases hlt : k < xh.length
    · have hltI : (k : Int) < xh.length := by omega
      have e0 : (0 : Int) ≤ k ∧ (k : Int) < xh.length := by omega
      obtain ⟨b', off, rfl, _, hok, u0, u1, u2, u3, u4⟩ := ar_at (H1.out.fut RAr.stays hF.out) hlt
      have hnx := Lib.hid (List.take_succ_eq_append_getElem hlt)
      have hmem := Lib.hid (List.getElem_mem hlt)
      generalize xh[k] = z at *
      have HC := Lib.hid (fun W => argT_any z W hok)
      obtain ⟨d, hd⟩ : ∃ d, z.good = d := ⟨_, rfl⟩
      simp only [hd] at HC
      replace hd := Lib.hid hd
      have hb0 := heap_alloc_new wr (.cells #[.int .i8 z.g, .string z.t.v, .int .i8 z.t.x.k, .int .i64 z.t.x.n, .string z.t.x.s] 40)
      have f0 := Lib.hid (Fut.alloc wr (.cells #[.int .i8 z.g, .string z.t.v, .int .i8 z.t.x.k, .int .i64 z.t.x.n, .string z.t.x.s] 40))
      cases d
      · obtain rfl : b = false := by
          rw [← hgb.out]
          have h9 : xh.all Ar.good = false := List.all_eq_false.2 ⟨z, hmem.out, by rw [hd.out]; decide⟩
          rw [h9]; rfl
        go_wp2_with fail
        refine (HC.out _).mono ?_
        rintro e w3 ⟨rfl, f3⟩
        go_wp2
        go_ret
        exact ⟨by first | rfl | simp, (hF.out.trans f0.out).trans f3⟩
      · go_wp2_with fail
        refine (HC.out _).mono ?_
        rintro e w3 ⟨rfl, f3⟩
        have HF3 := Lib.hid ((hF.out.trans f0.out).trans f3)
        have HG3 := Lib.hid ((hG.out.trans f0.out).trans f3)
        have HA3 : Hid (∀ y ∈ xh.take (k + 1), y.good = true) := Lib.hid fun y hy => by
          rw [hnx.out, List.mem_append] at hy
          rcases hy with hy | hy
          · exact hA.out y hy
          · rw [List.mem_singleton] at hy; subst hy; exact hd.out
        clear f3
        go_wp2
        go_roundw
        case rel => exact ⟨k + 1, by omega, by go_num, HF3, HG3, HA3⟩
        case measure => simp [intOf] <;> omega
    · obtain rfl : k = xh.length := by omega
      obtain ⟨wo, hwo⟩ : ∃ x, x = wr := ⟨_, rfl⟩
      subst hwo
      rw [List.take_length] at hA
      have hall : xh.all Ar.good = true := List.all_eq_true.2 hA.out
      replace hgb := Lib.hid (show (xb.all Lt.good && decide (vars.length ≤ 24)) = b by rw [← hgb.out, hall]; rfl)
      have z1 := cell_at (hG.out.block HB.out) 2 (.slice Ab xb.length cb) rfl
      have HBw := Lib.hid (hG.out.block HB.out)
      have HFw := Lib.hid hF.out
      clear hG hA hall F1 HB hF
      go_wp2_with fail
      go_loopw [38] (fun i W => ∃ k : Nat, k ≤ xb.length ∧ i = .int .i64 k ∧ Hid (Fut w W) ∧ Hid (Fut wo W) ∧ Hid (∀ y ∈ xb.take k, y.good = true)) (fun i _ => xb.length - (intOf i).toNat)
      case atStart => exact ⟨0, Nat.zero_le _, rfl, HFw, Lib.hid (Fut.refl _), Lib.hid (fun y hy => by simp at hy)⟩
      case round =>
        obtain ⟨k, hk, rfl, hF, hG, hA⟩ := hrel
        by_cases hlt : k < xb.length
        · have hltI : (k : Int) < xb.length := by omega
          have e0 : (0 : Int) ≤ k ∧ (k : Int) < xb.length := by omega
          obtain ⟨b', off, A', c, Al, l', cl, Ad, d', cd, rfl, hcs, _, _, g3⟩ := lt_at (H2.out.fut RLt.stays hF.out) hlt
          have hnx := Lib.hid (List.take_succ_eq_append_getElem hlt)
          have hmem := Lib.hid (List.getElem_mem hlt)
          generalize xb[k] = z at *
          have u0 : wr.cell? ⟨b', off + k * 16, none⟩ = some (.int .i8 z.k) := hcs 0 _ rfl
          have u1 := hcs 1 _ rfl
          have u2 := hcs 2 _ rfl
          have u3 := hcs 3 _ rfl
          have u4 := hcs 4 _ rfl
          have u5 := hcs 5 _ rfl
          have u6 := hcs 6 _ rfl
          have u7 := hcs 7 _ rfl
          have u8 := hcs 8 _ rfl
          have u9 := hcs 9 _ rfl
          have u10 := hcs 10 _ rfl
          have u11 := hcs 11 _ rfl
          have u12 := hcs 12 _ rfl
          have u13 := hcs 13 _ rfl
          have u14 := hcs 14 _ rfl
          have u15 := hcs 15 _ rfl
          have HC := Lib.hid (fun W (hW : Fut wr W) => checkL_any z A' c (.slice Al l' cl) (.slice Ad d' cd) W (g3.fut hW))
          obtain ⟨d, hd⟩ : ∃ d, z.good = d := ⟨_, rfl⟩
          simp only [hd] at HC
          replace hd := Lib.hid hd
          clear hcs g3
          obtain ⟨zk, zp, za, zr, zl, zd⟩ := z
          dsimp only [Lt.cs] at u0 u1 u2 u3 u4 u5 u6 u7 u8 u9 u10 u11 u12 u13 u14 u15 HC
          generalize zl.t = lt at *
          generalize zl.op = lo at *
          generalize zd.t = dt at *
          generalize zd.op = do' at *
          generalize za.length = na at *
          have f0 := Lib.hid (Fut.alloc wr (.cells #[.int .i8 zk, .string zp, .slice A' na c, .int .i8 zr, .int .i8 lo, .string lt.v, .int .i8 lt.x.k, .int .i64 lt.x.n, .string lt.x.s, .slice Al l' cl, .int .i8 do', .string dt.v, .int .i8 dt.x.k, .int .i64 dt.x.n, .string dt.x.s, .slice Ad d' cd] 61))
          cases d
          · obtain rfl : b = false := by
              rw [← hgb.out]
              have h9 : xb.all Lt.good = false := List.all_eq_false.2 ⟨_, hmem.out, by rw [hd.out]; decide⟩
              rw [h9]; rfl
            go_wp2_with fail
            refine (HC.out _ f0.out).mono ?_
            rintro e w3 ⟨rfl, f3⟩
            go_wp2
            go_ret
            exact ⟨by first | rfl | simp, (hF.out.trans f0.out).trans f3⟩
          · go_wp2_with fail
            refine (HC.out _ f0.out).mono ?_
            rintro e w3 ⟨rfl, f3⟩
            have HF3 := Lib.hid ((hF.out.trans f0.out).trans f3)
            have HG3 := Lib.hid ((hG.out.trans f0.out).trans f3)
            have HA3 : Hid (∀ y ∈ xb.take (k + 1), y.good = true) := Lib.hid fun y hy => by
              rw [hnx.out, List.mem_append] at hy
              rcases hy with hy | hy
              · exact hA.out y hy
              · rw [List.mem_singleton] at hy; subst hy; exact hd.out
            clear f3
            go_wp2
            go_roundw
            case rel => exact ⟨k + 1, by omega, by go_num, HF3, HG3, HA3⟩
            case measure => simp [intOf] <;> omega
        · obtain rfl : k = xb.length := by omega
          rw [List.take_length] at hA
          have hall : xb.all Lt.good = true := List.all_eq_true.2 hA.out
          replace hgb := Lib.hid (show decide (vars.length ≤ 24) = b by rw [← hgb.out, hall]; rfl)
          have hb1 := hG.out.block HBw.out
          have z0 := cell_at hb1 0 (.string p) rfl
          have z1 := cell_at hb1 1 (.slice Ah xh.length ch) rfl
          have z2 := cell_at hb1 2 (.slice Ab xb.length cb) rfl
          clear hb1 hA hall
          go_wp2_with fail
          refine (HV.out _ hF.out).mono ?_
          rintro e w3 ⟨v, rfl, hv, f3⟩
          obtain ⟨A3, c3, rfl, _, _⟩ := hv.rep.form
          have HF3 := Lib.hid (hF.out.trans f3)
          clear hv f3
          generalize vars.length = nv at *
          by_cases hnv : nv ≤ 24
          · obtain rfl : b = true := by rw [← hgb.out]; simp [hnv]
            have hnI : (nv : Int) ≤ 24 := by omega
            go_wp2_with fail
            refine (codeT_any true _).mono ?_
            rintro e w4 ⟨rfl, rfl⟩
            go_wp2
            go_ret
            exact ⟨by first | rfl | simp, HF3.out⟩
          · obtain rfl : b = false := by rw [← hgb.out]; simp [hnv]
            have hnI : ¬ (nv : Int) ≤ 24 := by omega
            have hC : ∀ W, Calls Try.prog 45 #[.bool (decide ((nv : Int) ≤ 24))] W fun e w' => e = .returned (.int .i64 40) ∧ w' = W := fun W => by rw [decide_eq_false hnI]; exact codeT_any false W
            go_wp2_with fail
            refine (hC _).mono ?_
            rintro e w4 ⟨rfl, rfl⟩
            go_wp2
            go_ret
            exact ⟨by first | rfl | simp, HF3.out⟩
end Go.Proofs.Ytcpphabehpbmlaa
/- Which variables a body limits, plainly: check.limits, Rule, Makes. No program. -/
namespace Go.Proofs.Ytcpphabehpbmlaa
open Go.RowKit Go.WideMaps Go.Maps
set_option linter.unusedSimpArgs false
set_option linter.unusedVariables false

def addF (L : List ByteArray) (v : ByteArray) : List ByteArray := if v ∈ L then L else L ++ [v]
theorem addF_len (L : List ByteArray) (v : ByteArray) : (addF L v).length ≤ L.length + 1 := by
  unfold addF
  split
  · omega
  · simp
theorem foldF_len : ∀ (vs L : List ByteArray), (vs.foldl addF L).length ≤ L.length + vs.length
  | [], L => by simp
  | v :: r, L => by
    rw [List.foldl_cons, List.length_cons]
    have h1 := foldF_len r (addF L v)
    have h2 := addF_len L v
    omega
def allIn (L vs : List ByteArray) : Bool := vs.all fun v => decide (v ∈ L)
/-- An equation: the variables that its sides are, and the variables of its sides. -/
structure Eqn where
  l : ByteArray
  r : ByteArray
  ls : List ByteArray
  rs : List ByteArray
def Eqn.takes (q : Eqn) (L : List ByteArray) : Bool × List ByteArray :=
  if q.l.toList ≠ [] ∧ q.l ∉ L ∧ allIn L q.rs = true then (true, L ++ [q.l])
  else if q.r.toList ≠ [] ∧ q.r ∉ L ∧ allIn L q.ls = true then (true, L ++ [q.r])
  else (false, L)
def stepE (s : List Eqn × List ByteArray) (q : Eqn) : List Eqn × List ByteArray :=
  if (q.takes s.2).1 = true then (s.1, (q.takes s.2).2) else (s.1 ++ [q], (q.takes s.2).2)
def roundE (qs : List Eqn) (L : List ByteArray) : List Eqn × List ByteArray := qs.foldl stepE ([], L)
theorem stepE_len (s : List Eqn × List ByteArray) (q : Eqn) : (stepE s q).1.length ≤ s.1.length + 1 := by
  unfold stepE
  split
  · simp
  · simp
theorem foldE_len : ∀ (qs : List Eqn) (s : List Eqn × List ByteArray), (qs.foldl stepE s).1.length ≤ s.1.length + qs.length
  | [], s => by simp
  | q :: r, s => by
    rw [List.foldl_cons, List.length_cons]
    have h1 := foldE_len r (stepE s q)
    have h2 := stepE_len s q
    omega
theorem roundE_len (qs : List Eqn) (L : List ByteArray) : (roundE qs L).1.length ≤ qs.length := by
  have := foldE_len qs ([], L)
  unfold roundE
  simpa using this
/-- Rounds, until one takes none out. -/
def loopE : Nat → List Eqn → List ByteArray → List ByteArray
  | 0, _, L => L
  | n + 1, qs, L => if (roundE qs L).1.length < qs.length then loopE n (roundE qs L).1 (roundE qs L).2 else (roundE qs L).2
def Ex.lone (e : Ex) : ByteArray := if e.op = 0 ∧ e.kids.length = 0 ∧ e.t.v.toList ≠ [95] then e.t.v else ⟨#[]⟩
def Lt.eqn (x : Lt) : Eqn := ⟨x.l.lone, x.d.lone, x.l.vars, x.d.vars⟩
def stepB (s : List Eqn × List ByteArray) (x : Lt) : List Eqn × List ByteArray :=
  if x.k = 1 then (s.1, (tmVars x.a).foldl addF s.2) else if x.k = 3 ∧ x.r = 1 then (s.1 ++ [x.eqn], s.2) else s
def beginB (b : List Lt) : List Eqn × List ByteArray := b.foldl stepB ([], [])
def limitsB (b : List Lt) : List ByteArray := loopE ((beginB b).1.length + 1) (beginB b).1 (beginB b).2
def Ru.safe (r : Ru) : Bool := allIn (limitsB r.b) r.vars
def Ru.errno (r : Ru) : Int := if r.good = true then (if r.safe = true then 0 else 73) else 40
def Lt.works (x : Lt) : Bool := decide (x.k = 3) && (!decide (x.l.op = 0) || !decide (x.d.op = 0))
def Ru.posB (r : Ru) : List Lt := r.b.filter fun x => decide (x.k = 1)
def Ru.makes (r : Ru) : Bool := decide (r.errno = 0) && r.b.any Lt.works && !allIn (limitsB r.posB) (ddVs r.hs)
end Go.Proofs.Ytcpphabehpbmlaa
