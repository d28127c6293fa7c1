/- DOne, DPlain, R9O, DGraph, DNames, DValues, DAppend -/
import Derived.RangeFuncBox
import Derived.Test.YtgcgmbegkfaifaaGreatDoorC21
/- depend.OneLevel, Plain. -/
namespace Go.Proofs.YtgcgmbegkfaifaaGreatDoor
open Go.RowKit Go.WideMaps Go.Maps
set_option linter.unusedSimpArgs false
set_option linter.unusedVariables false

abbrev tSt : TypeId := 37
def setE (L : List ByteArray) : List (ByteArray × Value) := L.map fun s => (s, .agg #[])
theorem zeroU (w : World) : (zeroValue 39).run Tryz.prog w = .ok (.agg #[]) w := by kernel_rfl
section
variable {w : World} {b : Nat} {L : List ByteArray} {p : ByteArray}
theorem setE_ok (h : ∀ s ∈ L, s.size ≤ 140737488351232) : ∀ q ∈ setE L, q.1.size ≤ maxLen := fun q hq => by
  obtain ⟨s, hs, rfl⟩ := List.mem_map.1 hq
  exact Nat.le_trans (h s hs) (by unfold maxLen; omega)
theorem set_look (h : MapE strV w b (setE L)) (hs : ∀ s ∈ L, s.size ≤ 140737488351232) (hp : p.size ≤ 140737488351232) : (Instr.lookup tSt (.map (some b)) (.string p) true).run Tryz.prog w = .ok (.tuple #[.agg #[], .bool (decide (p ∈ L))]) w := by
  have h1 := (h.look (t := tSt) keyStr (setE_ok hs) Tryz.underlying37 zeroU (x := p) (Nat.le_trans hp (by unfold maxLen; omega))).2
  by_cases e : p ∈ L
  · obtain ⟨i, hi⟩ := List.getElem?_of_mem e
    have hg : getE (setE L) p = some (.agg #[]) := getE_at h.nodup (j := i) (by unfold setE; rw [List.getElem?_map, hi]; rfl)
    rw [hg] at h1
    rw [decide_eq_true e]
    exact h1
  · have hg : getE (setE L) p = none := getE_none fun q hq he => e (by
      obtain ⟨s, hs, rfl⟩ := List.mem_map.1 hq
      rw [← he]; exact hs)
    rw [hg] at h1
    rw [decide_eq_false e]
    exact h1
theorem set_add (h : MapE strV w b (setE L)) (hs : ∀ s ∈ L, s.size ≤ 140737488351232) (hp : p.size ≤ 140737488351232) : ∃ w', (Instr.mapUpdate tSt (.map (some b)) (.string p) (.agg #[])).run Tryz.prog w = .ok () w' ∧ MapE strV w' b (setE (addF L p)) ∧ w.grownBy w' (some b) := by
  have hpm : p.size ≤ maxLen := Nat.le_trans hp (by unfold maxLen; omega)
  by_cases e : p ∈ L
  · obtain ⟨i, hi⟩ := List.getElem?_of_mem e
    have hat : (setE L)[i]? = some (p, .agg #[]) := by unfold setE; rw [List.getElem?_map, hi]; rfl
    obtain ⟨w', h1, h2, h3⟩ := h.put (t := tSt) keyStr (setE_ok hs) Tryz.underlying37 (x := p) hpm hat (.agg #[])
    refine ⟨w', h1, ?_, h3⟩
    have e1 : (setE L).set i (p, .agg #[]) = setE L := by
      refine List.ext_getElem? fun j => ?_
      rw [List.getElem?_set]
      by_cases hj : i = j
      · subst hj
        rw [if_pos rfl, if_pos (List.getElem?_eq_some_iff.1 hat).1, hat]
      · rw [if_neg hj]
    rw [e1] at h2
    unfold addF
    rw [if_pos e]
    exact h2
  · obtain ⟨w', h1, h2, h3⟩ := h.push (t := tSt) keyStr (setE_ok hs) Tryz.underlying37 (x := p) hpm (fun q hq he => e (by
      obtain ⟨s, hs, rfl⟩ := List.mem_map.1 hq
      rw [← he]; exact hs)) (.agg #[])
    refine ⟨w', h1, ?_, h3⟩
    unfold addF
    rw [if_neg e]
    have e1 : setE (L ++ [p]) = setE L ++ [(p, .agg #[])] := by unfold setE; rw [List.map_append]; rfl
    rw [e1]
    exact h2
end
theorem addF_mem {L : List ByteArray} {v x : ByteArray} : x ∈ addF L v ↔ x ∈ L ∨ x = v := by
  unfold addF
  split
  · rename_i h
    constructor
    · exact .inl
    · rintro (h1 | rfl)
      · exact h1
      · exact h
  · rw [List.mem_append, List.mem_singleton]
theorem foldF_mem : ∀ (vs L : List ByteArray) (x : ByteArray), x ∈ vs.foldl addF L ↔ x ∈ L ∨ x ∈ vs
  | [], L, x => by simp
  | v :: r, L, x => by
    rw [List.foldl_cons, foldF_mem r, addF_mem, List.mem_cons, or_assoc]
def headsP (rs : List Ru) : List ByteArray := (rs.map (·.p)).foldl addF []
def Ed.strictIn (e : Ed) (H : List ByteArray) : Bool := decide (e.t ∈ H) && !decide (e.k = 1)
def oneP (rs : List Ru) : Bool := !rs.any Ru.agg && !(edgesP rs).any fun e => e.strictIn (headsP rs)
theorem infoEdZ : (Tryz.prog.info? 45).map (fun i => (i.zero, i.size)) = some (some (.agg #[.string ⟨#[]⟩, .string ⟨#[]⟩, .int .i8 0, .int .i64 0]), 4) := by kernel_rfl
theorem ed_at {M : Nat} {w : World} {A : Option Addr} {n cap : Nat} {xs : List Ed} (h : SlRep 4 M REd w (.slice A n cap) xs) {k : Nat} (hk : k < xs.length) :
    ∃ b off, A = some ⟨b, off, none⟩ ∧ ∀ j v, ([.string (xs[k]).f, .string (xs[k]).t, .int .i8 (xs[k]).k, .int .i64 (xs[k]).r] : List Value)[j]? = some v → w.cell? ⟨b, off + k * 4 + j, none⟩ = some v := by
  obtain ⟨A1, cap1, hv, _, _, h3⟩ := h
  obtain ⟨b, off, cs, hA, hl, hc, hr⟩ := h3 k _ (List.getElem?_eq_getElem hk)
  injection hv with hv _ _
  obtain rfl : cs = _ := hr
  exact ⟨b, off, hv.trans hA, fun j v hj => by rw [Nat.add_assoc]; exact hc j v hj⟩
theorem ed_to (rs : List Ru) (hp : ∀ r ∈ rs, ∀ x ∈ r.b, x.p.size ≤ 140737488351232) : ∀ e ∈ edgesP rs, e.t.size ≤ 140737488351232 := fun e he => by
  unfold edgesP at he
  obtain ⟨⟨r, i⟩, hr, he⟩ := List.mem_flatMap.1 he
  unfold Ru.edges at he
  obtain ⟨x, hx, rfl⟩ := List.mem_map.1 he
  have hr2 : r ∈ rs := by
    have := List.mem_zipIdx hr
    obtain ⟨_, _, h3⟩ := this
    rw [h3]
    exact List.getElem_mem _
  exact hp r hr2 x (List.mem_filter.1 hx).1
theorem rus_ok {M : Nat} {w : World} {v : Value} {rs : List Ru} (h : SlRep 3 M RRu w v rs) : (∀ r ∈ rs, r.p.size ≤ 140737488351232) ∧ ∀ r ∈ rs, ∀ x ∈ r.b, x.p.size ≤ 140737488351232 := by
  refine ⟨fun r hr => ?_, fun r hr x hx => ?_⟩
  · obtain ⟨cs, hv, bv, _, h1, _⟩ := sl_mem h r hr
    exact h1
  · obtain ⟨cs, hv, bv, _, _, _, h2⟩ := sl_mem h r hr
    obtain ⟨cs', hr'⟩ := sl_mem h2 x hx
    obtain ⟨_, _, _, _, _, _, _, _, _, _, _, hc⟩ := lt_cs hr'
    exact hc.pw
set_option maxHeartbeats 4000000 in
set_option maxRecDepth 100000 in
theorem one_any {M : Nat} (A : Option Addr) (c : Nat) (rs : List Ru) (w : World) (h : SlRep 3 M RRu w (.slice A rs.length c) rs) (hM : M ≤ 9223372036854775807) (hS : Small rs) :
    Calls Tryz.prog 6 #[.slice A rs.length c] w fun e w' => e = .returned (.bool (oneP rs)) ∧ Fut w w' := by
  obtain ⟨_, _, hv, hl1, hl2⟩ := h.form
  have hxl : rs.length ≤ 9223372036854775807 := by omega
  have H := Lib.hid h
  have hok := rus_ok h
  have HE := Lib.hid (fun W (hW : Fut w W) => edges_any A c rs W (h.fut RRu.stays hW) hM hS)
  have HO := Lib.hid hok.1
  have HT := Lib.hid (ed_to rs hok.2)
  have HN := Lib.hid hS.edges
  obtain ⟨r0, hr0⟩ : ∃ b, oneP rs = b := ⟨_, rfl⟩
  rw [hr0]
  replace hr0 := Lib.hid hr0
  clear h hS hl1 hl2 hv hok
  have hm := MapE.new (kv := strV) w
  have HF0 := Lib.hid (Fut.alloc w (.map #[] 0))
  have HI := Lib.hid (show MapE strV (w.alloc (.map #[] 0)) w.heap.size (setE (((rs.take 0).map (·.p)).foldl addF [])) from hm)
  clear hm
  have hmm := @run_makeMap Tryz.prog
  go_enter Tryz.func6, Tryz.ntmps6
  go_wp2_with fail
  clear hmm
  go_loopw [13] (fun i wr => ∃ k : Nat, k ≤ rs.length ∧ i = .int .i64 k ∧ Hid (Fut w wr) ∧ Hid (MapE strV wr w.heap.size (setE (((rs.take k).map (·.p)).foldl addF []))) ∧ Hid (∀ r ∈ rs.take k, r.agg = false)) (fun i _ => rs.length - (intOf i).toNat)
  case atStart => exact ⟨0, Nat.zero_le _, rfl, HF0, HI, Lib.hid (fun r hr => by simp at hr)⟩
  case round =>
    obtain ⟨k, hk, rfl, hF, hI, hA⟩ := hrel
    by_cases hlt : k < rs.length
    · have hltI : (k : Int) < rs.length := by omega
      have e0 : (0 : Int) ≤ k ∧ (k : Int) < rs.length := by omega
      obtain ⟨b', off, Ah, ch, Ab, cb, rfl, u0, u1, u2, hp, hh1, hh2⟩ := ru_at H.out hlt
      have hnx := Lib.hid (show ((rs.take (k + 1)).map (·.p)).foldl addF [] = addF (((rs.take k).map (·.p)).foldl addF []) (rs[k]).p by rw [List.take_succ_eq_append_getElem hlt, List.map_append, List.foldl_append]; rfl)
      have htk := Lib.hid (List.take_succ_eq_append_getElem hlt)
      have hmem := Lib.hid (List.getElem_mem hlt)
      have hsz : ∀ s ∈ ((rs.take k).map (·.p)).foldl addF [], s.size ≤ 140737488351232 := fun s hs => by
        rcases (foldF_mem _ _ _).1 hs with hs | hs
        · cases hs
        · obtain ⟨r, hr, rfl⟩ := List.mem_map.1 hs
          exact HO.out r (List.mem_of_mem_take hr)
      generalize rs[k] = r at *
      have hcs9 := Lib.hid (three_cells (hF.out.cell u0) (hF.out.cell u1) (hF.out.cell u2))
      obtain ⟨L, hL⟩ : ∃ L, ((rs.take k).map (·.p)).foldl addF [] = L := ⟨_, rfl⟩
      rw [hL] at hI hnx hsz
      obtain ⟨w2, hw2⟩ : ∃ W, wr.alloc (.cells [.string r.p, .slice Ah r.h.length ch, .slice Ab r.b.length cb].toArray 29) = W := ⟨_, rfl⟩
      have f1 : Fut wr w2 := by rw [← hw2]; exact Fut.alloc _ _
      have hrb : w2.heap[wr.heap.size]? = some (.cells #[.string r.p, .slice Ah r.h.length ch, .slice Ab r.b.length cb] 29 (0, 0)) := by rw [← hw2]; exact heap_alloc_new wr _
      have q0 := cell_at hrb 0 (.string r.p) rfl
      have q1 := cell_at hrb 1 (.slice Ah r.h.length ch) rfl
      have q2 := cell_at hrb 2 (.slice Ab r.b.length cb) rfl
      have hone : ∀ v ∈ ([.string r.p, .slice Ah r.h.length ch, .slice Ab r.b.length cb] : List Value), v.oneCell' = true := fun v hv => by
        simp only [List.mem_cons, List.not_mem_nil, or_false] at hv
        rcases hv with rfl | rfl | rfl <;> rfl
      have F2 := Lib.hid (hF.out.trans f1)
      have HC := Lib.hid (agg_any r Ah Ab ch cb w2 (hh1.fut RAr.stays F2.out))
      have hw2h := Lib.hid hw2
      have hI2 := Lib.hid (hI.out.fut f1)
      have HRB := Lib.hid hrb
      clear hw2 f1 hI u0 u1 u2 hL hrb hh1 hh2
      obtain ⟨g, hg⟩ : ∃ g, r.agg = g := ⟨_, rfl⟩
      rw [hg] at HC
      replace hg := Lib.hid hg
      cases g
      · go_wp2_with (first | (refine wpList_rangeBox [.string r.p, .slice Ah r.h.length ch, .slice Ab r.b.length cb] rfl rfl rfl rfl rfl rfl rfl hcs9.out Tryz.underlying29 infoRu rfl hone rfl rfl hw2h.out ?_))
        refine HC.out.mono ?_
        rintro e w3 ⟨rfl, f3⟩
        have q0' := cell_at (f3.block HRB.out) 0 (.string r.p) rfl
        obtain ⟨w4, hr4, hm4, hg4⟩ := set_add (hI2.out.fut f3) hsz hp
        have O4 : Only (fun k => k = w.heap.size) w3 w4 := Only.grown hg4 fun k hk => (Option.some.inj hk).symm
        have O5 : Only (fun k => w.heap.size ≤ k) w w4 := (Only.fut (F2.out.trans f3)).trans (O4.mono fun k _ hk => by omega)
        have HF4 := Lib.hid (O5.toFut fun k hk => hk)
        have HM4 := Lib.hid (show MapE strV w4 w.heap.size (setE (((rs.take (k + 1)).map (·.p)).foldl addF [])) by rw [hnx.out]; exact hm4)
        have HA4 := Lib.hid (show ∀ r ∈ rs.take (k + 1), r.agg = false from fun x hx => by
          rw [htk.out, List.mem_append] at hx
          rcases hx with hx | hx
          · exact hA.out x hx
          · rw [List.mem_singleton] at hx; subst hx; exact hg.out)
        clear f3 hm4 hg4 O4 O5 hsz hp HC q0 q1 q2
        go_wp2
        go_roundw
        case rel => exact ⟨k + 1, by omega, by go_num, HF4, HM4, HA4⟩
        case measure => simp [intOf] <;> omega
      · obtain rfl : r0 = false := by
          rw [← hr0.out]
          have h9 : rs.any Ru.agg = true := List.any_eq_true.2 ⟨r, hmem.out, hg.out⟩
          unfold oneP
          rw [h9]
          rfl
        go_wp2_with (first | (refine wpList_rangeBox [.string r.p, .slice Ah r.h.length ch, .slice Ab r.b.length cb] rfl rfl rfl rfl rfl rfl rfl hcs9.out Tryz.underlying29 infoRu rfl hone rfl rfl hw2h.out ?_))
        refine HC.out.mono ?_
        rintro e w3 ⟨rfl, f3⟩
        go_wp2
        go_ret
        exact ⟨rfl, F2.out.trans f3⟩
    · obtain rfl : k = rs.length := by omega
      rw [List.take_length] at hI hA
      have hag : rs.any Ru.agg = false := List.any_eq_false.2 fun x hx => by rw [hA.out x hx]; decide
      have hr1 := Lib.hid (show (!(edgesP rs).any fun e => e.strictIn (headsP rs)) = r0 by
        have := hr0.out
        unfold oneP at this
        rw [hag] at this
        exact this)
      have HIm := Lib.hid (show MapE strV wr w.heap.size (setE (headsP rs)) from hI.out)
      have hHs := Lib.hid (show ∀ s ∈ headsP rs, s.size ≤ 140737488351232 from fun s hs => by
        rcases (foldF_mem _ _ _).1 hs with hs | hs
        · cases hs
        · obtain ⟨r, hr, rfl⟩ := List.mem_map.1 hs
          exact HO.out r hr)
      have HC := Lib.hid (HE.out wr hF.out)
      generalize edgesP rs = es at *
      generalize headsP rs = hd at *
      have hFr := Lib.hid hF.out
      clear hI hA hag hr0 HE HI HF0 hF
      obtain ⟨wo, hwo⟩ : ∃ x, x = wr := ⟨_, rfl⟩
      subst hwo
      go_wp2_with fail
      refine HC.out.mono ?_
      rintro e w3 ⟨v, rfl, ho, f3⟩
      obtain ⟨Ae, ce, rfl, _, _⟩ := ho.rep.form
      have hn := HN.out
      have HOw := Lib.hid ho
      have HM3 := Lib.hid (HIm.out.fut f3)
      have HF3 := Lib.hid (hFr.out.trans f3)
      clear ho f3 HC
      go_wp2_with fail
      go_loopw [28] (fun i W => ∃ k : Nat, k ≤ es.length ∧ i = .int .i64 k ∧ Hid (Fut w3 W) ∧ Hid (∀ e ∈ es.take k, e.strictIn hd = false)) (fun i _ => es.length - (intOf i).toNat)
      case atStart => exact ⟨0, Nat.zero_le _, rfl, Lib.hid (Fut.refl _), Lib.hid (fun r hr => by simp at hr)⟩
      case round =>
        obtain ⟨k, hk, rfl, hF, hA⟩ := hrel
        by_cases hlt : k < es.length
        · have hltI : (k : Int) < es.length := by omega
          have e0 : (0 : Int) ≤ k ∧ (k : Int) < es.length := by omega
          obtain ⟨b', off, rfl, hcs⟩ := ed_at (HOw.out.fut REd.stays hF.out).rep hlt
          have htk := Lib.hid (List.take_succ_eq_append_getElem hlt)
          have hmem := Lib.hid (List.getElem_mem hlt)
          have hets := HT.out _ hmem.out
          generalize es[k] = x at *
          obtain ⟨w4, hw4⟩ : ∃ W, wr.alloc (.cells [.string x.f, .string x.t, .int .i8 x.k, .int .i64 x.r].toArray 45) = W := ⟨_, rfl⟩
          have f1 : Fut wr w4 := by rw [← hw4]; exact Fut.alloc _ _
          have hrb : w4.heap[wr.heap.size]? = some (.cells #[.string x.f, .string x.t, .int .i8 x.k, .int .i64 x.r] 45 (0, 0)) := by rw [← hw4]; exact heap_alloc_new wr _
          have q1 := cell_at hrb 1 (.string x.t) rfl
          have f2 := Fut.alloc w4 (.cells #[] 39)
          have q2 := f2.cell (cell_at hrb 2 (.int .i8 x.k) rfl)
          have hL := set_look (HM3.out.fut (hF.out.trans f1)) hHs.out hets
          have hone : ∀ v ∈ ([.string x.f, .string x.t, .int .i8 x.k, .int .i64 x.r] : List Value), v.oneCell' = true := fun v hv => by
            simp only [List.mem_cons, List.not_mem_nil, or_false] at hv
            rcases hv with rfl | rfl | rfl | rfl <;> rfl
          have hw4h := Lib.hid hw4
          have hcs9 := Lib.hid hcs
          have FN := Lib.hid ((hF.out.trans f1).trans f2)
          clear hw4 f1 f2 hrb hcs hets
          have hst : x.strictIn hd = (decide (x.t ∈ hd) && !decide (x.k = 1)) := rfl
          have next : x.strictIn hd = false → Hid (∀ e ∈ es.take (k + 1), e.strictIn hd = false) := fun hx => Lib.hid fun y hy => by
            rw [htk.out, List.mem_append] at hy
            rcases hy with hy | hy
            · exact hA.out y hy
            · rw [List.mem_singleton] at hy; subst hy; exact hx
          by_cases e1 : x.t ∈ hd
          · rw [decide_eq_true e1] at hL hst
            by_cases e2 : x.k = 1
            · have HA4 := next (by rw [hst, e2]; rfl)
              clear next hst e1
              go_wp2_with (first | (refine wpList_rangeBox [.string x.f, .string x.t, .int .i8 x.k, .int .i64 x.r] rfl rfl rfl rfl rfl rfl rfl hcs9.out Tryz.underlying45 infoEdZ rfl hone rfl rfl hw4h.out ?_))
              go_roundw
              case rel => exact ⟨k + 1, by omega, by go_num, FN, HA4⟩
              case measure => simp [intOf] <;> omega
            · obtain rfl : r0 = false := by
                rw [← hr1.out]
                have h9 : (es.any fun e => e.strictIn hd) = true := List.any_eq_true.2 ⟨x, hmem.out, by rw [hst, decide_eq_false e2]; rfl⟩
                rw [h9]; rfl
              clear next hst e1
              go_wp2_with (first | (refine wpList_rangeBox [.string x.f, .string x.t, .int .i8 x.k, .int .i64 x.r] rfl rfl rfl rfl rfl rfl rfl hcs9.out Tryz.underlying45 infoEdZ rfl hone rfl rfl hw4h.out ?_))
              go_ret
              exact ⟨rfl, HF3.out.trans FN.out⟩
          · rw [decide_eq_false e1] at hL hst
            have HA4 := next (by rw [hst]; rfl)
            clear next hst e1
            go_wp2_with (first | (refine wpList_rangeBox [.string x.f, .string x.t, .int .i8 x.k, .int .i64 x.r] rfl rfl rfl rfl rfl rfl rfl hcs9.out Tryz.underlying45 infoEdZ rfl hone rfl rfl hw4h.out ?_))
            go_roundw
            case rel => exact ⟨k + 1, by omega, by go_num, FN, HA4⟩
            case measure => simp [intOf] <;> omega
        · obtain rfl : k = es.length := by omega
          rw [List.take_length] at hA
          obtain rfl : r0 = true := by
            rw [← hr1.out]
            have h9 : (es.any fun e => e.strictIn hd) = false := List.any_eq_false.2 fun x hx => by rw [hA.out x hx]; decide
            rw [h9]; rfl
          go_wp2
          go_ret
          exact ⟨rfl, HF3.out.trans hF.out⟩
end Go.Proofs.YtgcgmbegkfaifaaGreatDoor
/- depend.Plain. -/
namespace Go.Proofs.YtgcgmbegkfaifaaGreatDoor
open Go.RowKit
set_option linter.unusedSimpArgs false
set_option linter.unusedVariables false

def plainP (rs : List Ru) : Bool := !rs.any Ru.makes && oneP rs
set_option maxHeartbeats 1600000 in
set_option maxRecDepth 100000 in
theorem idxR_any {M : Nat} (A : Option Addr) (c : Nat) (rs : List Ru) (w : World) (h : SlRep 3 M RRu w (.slice A rs.length c) rs) (hM : M ≤ 9223372036854775807) (hS : Small rs) :
    Calls Tryz.prog 39 #[.slice A rs.length c, .func (.func 23) #[] #[]] w fun e w' => ∃ r : Int, e = .returned (.int .i64 r) ∧ decide (0 ≤ r) = rs.any Ru.makes ∧ Fut w w' := by
  have H := Lib.hid h
  have HS := Lib.hid hS
  obtain ⟨_, _, hv, hl1, hl2⟩ := h.form
  have hxl : rs.length ≤ 9223372036854775807 := by omega
  clear h hv hl1 hl2 hS
  go_enter Tryz.func39, Tryz.ntmps39
  go_wp2_with fail
  go_loopw [8] (fun i wr => ∃ k : Nat, k ≤ rs.length ∧ i = .int .i64 k ∧ Hid (∀ x ∈ rs.take k, x.makes = false) ∧ Hid (Fut w wr)) (fun i _ => rs.length - (intOf i).toNat)
  case atStart => exact ⟨0, Nat.zero_le _, rfl, Lib.hid (fun x hx => by simp at hx), Lib.hid (Fut.refl _)⟩
  case round =>
    obtain ⟨k, hk, rfl, hI, hF⟩ := hrel
    by_cases hlt : k < rs.length
    · have hltI : (k : Int) < rs.length := by omega
      have e0 : (0 : Int) ≤ k ∧ (k : Int) < rs.length := by omega
      obtain ⟨b, off, Ah, ch, Ab, cb, rfl, u0, u1, u2, hp, hh1, hh2⟩ := ru_at H.out hlt
      have y0 := hF.out.cell u0
      have y1 := hF.out.cell u1
      have y2 := hF.out.cell u2
      have hnx : Hid (rs.take (k + 1) = rs.take k ++ [rs[k]]) := Lib.hid (List.take_succ_eq_append_getElem hlt)
      have hmem : rs[k] ∈ rs := List.getElem_mem hlt
      have hbd := (HS.out.mem hmem).1
      generalize rs[k] = r at *
      have HD := Lib.hid (makes_any r Ah Ab ch cb wr hp (hh1.fut RAr.stays hF.out) (hh2.fut RLt.stays hF.out) (by omega))
      obtain ⟨d, hd⟩ : ∃ d, r.makes = d := ⟨_, rfl⟩
      have hd' := Lib.hid hd
      rw [hd] at HD
      clear hd u0 u1 u2 hh1 hh2
      cases d
      · go_wp2_with fail
        refine HD.out.mono ?_
        rintro e w3 ⟨rfl, f3⟩
        have F3 := Lib.hid (hF.out.trans f3)
        have hI2 : Hid (∀ x ∈ rs.take (k + 1), x.makes = false) := Lib.hid fun x hx => by
          rw [hnx.out, List.mem_append] at hx
          rcases hx with hx | hx
          · exact hI.out x hx
          · rw [List.mem_singleton] at hx; subst hx; exact hd'.out
        clear f3
        go_wp2
        go_roundw
        case rel => exact ⟨k + 1, by omega, by go_num, hI2, F3⟩
        case measure => simp [intOf] <;> omega
      · go_wp2_with fail
        refine HD.out.mono ?_
        rintro e w3 ⟨rfl, f3⟩
        go_wp2
        go_ret
        exact ⟨k, rfl, by
          have h9 : rs.any Ru.makes = true := List.any_eq_true.2 ⟨_, hmem, hd'.out⟩
          rw [h9]; simp, hF.out.trans f3⟩
    · obtain rfl : k = rs.length := by omega
      rw [List.take_length] at hI
      go_wp2
      go_ret
      exact ⟨-1, rfl, by
        have h9 : rs.any Ru.makes = false := List.any_eq_false.2 fun x hx => by rw [hI.out x hx]; decide
        rw [h9]; decide, hF.out⟩
set_option maxHeartbeats 1600000 in
theorem contR_any {M : Nat} (A : Option Addr) (c : Nat) (rs : List Ru) (w : World) (h : SlRep 3 M RRu w (.slice A rs.length c) rs) (hM : M ≤ 9223372036854775807) (hS : Small rs) :
    Calls Tryz.prog 22 #[.slice A rs.length c, .func (.func 23) #[] #[]] w fun e w' => e = .returned (.bool (rs.any Ru.makes)) ∧ Fut w w' := by
  have HI := Lib.hid (idxR_any A c rs w h hM hS)
  obtain ⟨b, hb⟩ : ∃ b, (rs.any Ru.makes) = b := ⟨_, rfl⟩
  rw [hb] at HI ⊢
  clear h hb
  go_enter Tryz.func22, Tryz.ntmps22
  go_wp2_with fail
  refine HI.out.mono ?_
  rintro e w1 ⟨r, rfl, hr, f1⟩
  by_cases h0 : 0 ≤ r
  · obtain rfl : b = true := by rw [← hr]; simp [h0]
    have h0' : r ≥ 0 := h0
    go_wp2
    go_ret
    exact ⟨by first | rfl | simp, f1⟩
  · obtain rfl : b = false := by rw [← hr]; simp [h0]
    have h0' : ¬ r ≥ 0 := h0
    go_wp2
    go_ret
    exact ⟨by first | rfl | simp, f1⟩
set_option maxHeartbeats 1600000 in
theorem plain_any {M : Nat} (A : Option Addr) (c : Nat) (rs : List Ru) (w : World) (h : SlRep 3 M RRu w (.slice A rs.length c) rs) (hM : M ≤ 9223372036854775807) (hS : Small rs) :
    Calls Tryz.prog 8 #[.slice A rs.length c] w fun e w' => e = .returned (.bool (plainP rs)) ∧ Fut w w' := by
  have HC := Lib.hid (contR_any A c rs w h hM hS)
  have HO := Lib.hid (fun W (hW : Fut w W) => one_any A c rs W (h.fut RRu.stays hW) hM hS)
  unfold plainP
  obtain ⟨a, ha⟩ : ∃ b, (rs.any Ru.makes) = b := ⟨_, rfl⟩
  obtain ⟨b, hb⟩ : ∃ b, oneP rs = b := ⟨_, rfl⟩
  rw [ha] at HC ⊢
  rw [hb] at HO ⊢
  clear h ha hb
  cases a
  · go_enter Tryz.func8, Tryz.ntmps8
    go_wp2_with fail
    refine HC.out.mono ?_
    rintro e w1 ⟨rfl, f1⟩
    go_wp2_with fail
    refine (HO.out _ f1).mono ?_
    rintro e w2 ⟨rfl, f2⟩
    go_wp2
    go_ret
    exact ⟨by first | rfl | simp, f1.trans f2⟩
  · go_enter Tryz.func8, Tryz.ntmps8
    go_wp2_with fail
    refine HC.out.mono ?_
    rintro e w1 ⟨rfl, f1⟩
    go_wp2
    go_ret
    exact ⟨by first | rfl | simp, f1⟩
end Go.Proofs.YtgcgmbegkfaifaaGreatDoor
/- The document's layer 9: OneLevel, Plain. -/
namespace Go.Proofs.YtgcgmbegkfaifaaGreatDoor
open Go.RowKit Go.WideMaps Go.Maps
set_option linter.unusedSimpArgs false
set_option linter.unusedVariables false

theorem headsP_mem (rs : List Ru) (x : ByteArray) : x ∈ headsP rs ↔ x ∈ rs.map (·.p) := by
  unfold headsP
  rw [foldF_mem]
  simp
theorem infoRuS9 : (Tryz.prog.info? 29).map (·.size) = some 3 := by kernel_rfl
theorem infoEdS : (Tryz.prog.info? 45).map (·.size) = some 4 := by kernel_rfl
set_option maxHeartbeats 4000000 in
set_option maxRecDepth 100000 in
theorem rone_any {M : Nat} (A : Option Addr) (c : Nat) (rs : List Ru) (w : World) (h : SlRep 3 M RRu w (.slice A rs.length c) rs) (hM : M ≤ 9223372036854775807) (hS : Small rs) :
    Calls Tryz.prog 7 #[.slice A rs.length c] w fun e w' => e = .returned (.bool (oneP rs)) ∧ Fut w w' := by
  obtain ⟨_, _, hv, hl1, hl2⟩ := h.form
  have hxl : rs.length ≤ 10000000 := hS.len
  have H := Lib.hid h
  have HE := Lib.hid (fun W (hW : Fut w W) => redges_any A c rs W (h.fut RRu.stays hW) hM hS)
  have HN := Lib.hid hS.edges
  obtain ⟨r0, hr0⟩ : ∃ b, oneP rs = b := ⟨_, rfl⟩
  rw [hr0]
  replace hr0 := Lib.hid hr0
  clear h hS hl1 hl2 hv
  go_enter Tryz.func7, Tryz.ntmps7
  go_wp2_with fail
  go_loopw [3, 4] (fun u i wr => ∃ k : Nat, k ≤ rs.length ∧ i = .int .i64 k ∧ Hid (Fut w wr) ∧ Hid (Nms w.heap.size wr u ((rs.take k).map (·.p))) ∧ Hid (∀ r ∈ rs.take k, r.agg = false)) (fun _ i _ => rs.length - (intOf i).toNat)
  case atStart => exact ⟨0, Nat.zero_le _, rfl, Lib.hid (Fut.refl _), Lib.hid OwnL.nil, Lib.hid (fun r hr => by simp at hr)⟩
  case round =>
    obtain ⟨k, hk, rfl, hF, hI, hA⟩ := hrel
    obtain ⟨wq, rfl⟩ : ∃ x, x = wr := ⟨_, rfl⟩
    by_cases hlt : k < rs.length
    · have hltI : (k : Int) < rs.length := by omega
      have e0 : (0 : Int) ≤ k ∧ (k : Int) < rs.length := by omega
      obtain ⟨b', off, Ah, ch, Ab, cb, rfl, u0, u1, u2, hp, hh1, hh2⟩ := ru_at H.out hlt
      have hnx := Lib.hid (show (rs.take (k + 1)).map (·.p) = (rs.take k).map (·.p) ++ [(rs[k]).p] by rw [List.take_succ_eq_append_getElem hlt, List.map_append]; rfl)
      have htk := Lib.hid (List.take_succ_eq_append_getElem hlt)
      have hmem := Lib.hid (List.getElem_mem hlt)
      generalize rs[k] = r at *
      have U0 := Lib.hid u0
      have hcs9 := Lib.hid (three_cells (hF.out.cell u0) (hF.out.cell u1) (hF.out.cell u2))
      obtain ⟨L, hL⟩ : ∃ L, (rs.take k).map (·.p) = L := ⟨_, rfl⟩
      have hLl : L.length ≤ 10000000 := by rw [← hL, List.length_map, List.length_take]; omega
      rw [hL] at hI hnx
      have hi3 := infoRuS9
      have HC := Lib.hid (rhasAgg_any r Ah Ab ch cb wq (hh1.fut RAr.stays hF.out))
      clear u0 u1 u2 hL hh1 hh2
      obtain ⟨g, hg⟩ : ∃ g, r.agg = g := ⟨_, rfl⟩
      rw [hg] at HC
      replace hg := Lib.hid hg
      cases g
      · go_wp2_with (first | (show wpList _ _ _ (Oper.mk _ (Op.load 29 _) _ _ _ _ :: _) _ _; refine Go.wpList_load_mid rfl _ _ rfl b' (off + k * 3) rfl [.string r.p, .slice Ah r.h.length ch, .slice Ab r.b.length cb] _ hcs9.out Tryz.underlying29 rfl hi3 ?_))
        refine HC.out.mono ?_
        rintro e w3 ⟨rfl, f3⟩
        have F3 := Lib.hid (hF.out.trans f3)
        have v0 := F3.out.cell U0.out
        have HI3 := Lib.hid (hI.out.fut RNm.stays f3)
        have hsz := F3.out.size
        obtain ⟨Au, cu, rfl, _, _⟩ := HI3.out.rep.form
        have HA4 := Lib.hid (show ∀ r ∈ rs.take (k + 1), r.agg = false from fun x hx => by
          rw [htk.out, List.mem_append] at hx
          rcases hx with hx | hx
          · exact hA.out x hx
          · rw [List.mem_singleton] at hx; subst hx; exact hg.out)
        clear f3 HC hI hF hA
        go_wp2_with (first | (at_builtin; refine wpList_append_LB (R := RNm) (B := w.heap.size) (M := 1) (xs := L) (ys := [r.p]) (e := 9) (by go_simp) _ _ tVl' rfl Tryz.underlying47 (.string ⟨#[]⟩) 16 infoNm rfl (by decide) RNm.one RNm.keeps rfl rfl (HI3.out.fut RNm.stays (Fut.alloc _ _)) (nmOne _ _ _) ?l3 ?m3 ?b3 ?k3))
        case l3 => simp [maxLen]; omega
        case m3 => simp; omega
        case b3 => simp; omega
        case k3 =>
        intro v' w' o' g' sn'
        have HI4 := Lib.hid (show Nms w.heap.size w' v' ((rs.take (k + 1)).map (·.p)) by rw [hnx.out]; exact o')
        have HF4 := Lib.hid ((F3.out.trans (Fut.alloc _ _)).grown g' (fun k hk => (HI3.out.block k hk).1))
        clear o' g' sn' v0
        go_wp2
        go_roundw
        case rel => exact ⟨k + 1, by omega, by go_num, HF4, HI4, HA4⟩
        case measure => simp [intOf] <;> omega
      · obtain rfl : r0 = false := by
          rw [← hr0.out]
          have h9 : rs.any Ru.agg = true := List.any_eq_true.2 ⟨r, hmem.out, hg.out⟩
          unfold oneP
          rw [h9]
          rfl
        go_wp2_with (first | (show wpList _ _ _ (Oper.mk _ (Op.load 29 _) _ _ _ _ :: _) _ _; refine Go.wpList_load_mid rfl _ _ rfl b' (off + k * 3) rfl [.string r.p, .slice Ah r.h.length ch, .slice Ab r.b.length cb] _ hcs9.out Tryz.underlying29 rfl hi3 ?_))
        refine HC.out.mono ?_
        rintro e w3 ⟨rfl, f3⟩
        go_wp2
        go_ret
        exact ⟨rfl, hF.out.trans f3⟩
    · obtain rfl : k = rs.length := by omega
      rw [List.take_length] at hI hA
      have hag : rs.any Ru.agg = false := List.any_eq_false.2 fun x hx => by rw [hA.out x hx]; decide
      have hr1 := Lib.hid (show (!(edgesP rs).any fun e => e.strictIn (headsP rs)) = r0 by
        have := hr0.out
        unfold oneP at this
        rw [hag] at this
        exact this)
      have hhm := Lib.hid (fun x => headsP_mem rs x)
      have HC := Lib.hid (HE.out wq hF.out)
      generalize edgesP rs = es at *
      generalize headsP rs = hd at *
      obtain ⟨L, hL⟩ : ∃ L, rs.map (·.p) = L := ⟨_, rfl⟩
      simp only [hL] at hhm
      rw [hL] at hI
      clear hA hag hr0 HE hL
      obtain ⟨Ah, ch, rfl, _, _⟩ := hI.out.rep.form
      go_wp2_with fail
      refine HC.out.mono ?_
      rintro e w3 ⟨v, rfl, ho, f3⟩
      obtain ⟨Ae, ce, rfl, _, _⟩ := ho.rep.form
      have hn := HN.out
      have HOw := Lib.hid ho
      have HI3 := Lib.hid (hI.out.fut RNm.stays f3)
      have HF3 := Lib.hid (hF.out.trans f3)
      clear ho f3 HC hI hF
      go_wp2_with fail
      go_loopw [6] (fun i W => ∃ k : Nat, k ≤ es.length ∧ i = .int .i64 k ∧ Hid (Fut w3 W) ∧ Hid (∀ e ∈ es.take k, e.strictIn hd = false)) (fun i _ => es.length - (intOf i).toNat)
      case atStart => exact ⟨0, Nat.zero_le _, rfl, Lib.hid (Fut.refl _), Lib.hid (fun r hr => by simp at hr)⟩
      case round =>
        obtain ⟨k, hk, rfl, hF, hA⟩ := hrel
        obtain ⟨wz, rfl⟩ : ∃ x, x = wr := ⟨_, rfl⟩
        by_cases hlt : k < es.length
        · have hltI : (k : Int) < es.length := by omega
          have e0 : (0 : Int) ≤ k ∧ (k : Int) < es.length := by omega
          obtain ⟨b', off, rfl, hcs⟩ := ed_at HOw.out.rep hlt
          have htk := Lib.hid (List.take_succ_eq_append_getElem hlt)
          have hmem := Lib.hid (List.getElem_mem hlt)
          generalize es[k] = x at *
          have hcs9 := Lib.hid (fun j v hj => hF.out.cell (hcs j v hj))
          have U1 := Lib.hid (hcs 1 _ rfl)
          have hst : x.strictIn hd = (decide (x.t ∈ hd) && !decide (x.k = 1)) := rfl
          have hdm : decide (x.t ∈ hd) = decide (x.t ∈ L) := by rw [Bool.eq_iff_iff, decide_eq_true_iff, decide_eq_true_iff]; exact hhm.out x.t
          rw [hdm] at hst
          have next : x.strictIn hd = false → Hid (∀ e ∈ es.take (k + 1), e.strictIn hd = false) := fun hx => Lib.hid fun y hy => by
            rw [htk.out, List.mem_append] at hy
            rcases hy with hy | hy
            · exact hA.out y hy
            · rw [List.mem_singleton] at hy; subst hy; exact hx
          have yes : x.strictIn hd = true → r0 = false := fun hx => by
            rw [← hr1.out]
            have h9 : (es.any fun e => e.strictIn hd) = true := List.any_eq_true.2 ⟨x, hmem.out, hx⟩
            rw [h9]; rfl
          replace next := Lib.hid next
          replace yes := Lib.hid yes
          have HSt := Lib.hid (rstrict_any x wz)
          have HIn := Lib.hid (fun W (hW : Fut w3 W) => rhas9_any x.t Ah ch L W (HI3.out.rep.fut RNm.stays hW) (by decide))
          have hi4 := infoEdS
          clear hcs hdm
          obtain ⟨s1, hs1⟩ : ∃ b, (!decide (x.k = 1)) = b := ⟨_, rfl⟩
          obtain ⟨s2, hs2⟩ : ∃ b, decide (x.t ∈ L) = b := ⟨_, rfl⟩
          rw [hs1] at HSt hst
          rw [hs2] at HIn hst
          clear hs1 hs2
          cases s1
          · have hA2 := next.out (by rw [hst, Bool.and_false])
            clear hst next yes HIn
            go_wp2_with (first | (show wpList _ _ _ (Oper.mk _ (Op.load 45 _) _ _ _ _ :: _) _ _; refine Go.wpList_load_mid rfl _ _ rfl b' (off + k * 4) rfl [.string x.f, .string x.t, .int .i8 x.k, .int .i64 x.r] _ hcs9.out Tryz.underlying45 rfl hi4 ?_))
            refine HSt.out.mono ?_
            rintro e w4 ⟨rfl, f4⟩
            have hF4 := Lib.hid (hF.out.trans f4)
            clear f4
            go_wp2
            go_roundw
            case rel => exact ⟨k + 1, by omega, by go_num, hF4, hA2⟩
            case measure => simp [intOf] <;> omega
          · cases s2
            · have hA2 := next.out (by rw [hst]; rfl)
              clear hst next yes
              go_wp2_with (first | (show wpList _ _ _ (Oper.mk _ (Op.load 45 _) _ _ _ _ :: _) _ _; refine Go.wpList_load_mid rfl _ _ rfl b' (off + k * 4) rfl [.string x.f, .string x.t, .int .i8 x.k, .int .i64 x.r] _ hcs9.out Tryz.underlying45 rfl hi4 ?_))
              refine HSt.out.mono ?_
              rintro e w4 ⟨rfl, f4⟩
              have hF4 := Lib.hid (hF.out.trans f4)
              have v1 := hF4.out.cell U1.out
              have HIn4 := Lib.hid (HIn.out _ hF4.out)
              clear f4
              go_wp2_with fail
              refine HIn4.out.mono ?_
              rintro e w5 ⟨rfl, rfl⟩
              go_wp2
              go_roundw
              case rel => exact ⟨k + 1, by omega, by go_num, hF4, hA2⟩
              case measure => simp [intOf] <;> omega
            · obtain rfl : r0 = false := yes.out (by rw [hst]; rfl)
              clear hst next yes
              go_wp2_with (first | (show wpList _ _ _ (Oper.mk _ (Op.load 45 _) _ _ _ _ :: _) _ _; refine Go.wpList_load_mid rfl _ _ rfl b' (off + k * 4) rfl [.string x.f, .string x.t, .int .i8 x.k, .int .i64 x.r] _ hcs9.out Tryz.underlying45 rfl hi4 ?_))
              refine HSt.out.mono ?_
              rintro e w4 ⟨rfl, f4⟩
              have hF4 := Lib.hid (hF.out.trans f4)
              have v1 := hF4.out.cell U1.out
              have HIn4 := Lib.hid (HIn.out _ hF4.out)
              clear f4
              go_wp2_with fail
              refine HIn4.out.mono ?_
              rintro e w5 ⟨rfl, rfl⟩
              go_wp2
              go_ret
              exact ⟨rfl, HF3.out.trans hF4.out⟩
        · obtain rfl : k = es.length := by omega
          rw [List.take_length] at hA
          obtain rfl : r0 = true := by
            rw [← hr1.out]
            have h9 : (es.any fun e => e.strictIn hd) = false := List.any_eq_false.2 fun x hx => by rw [hA.out x hx]; decide
            rw [h9]; rfl
          go_wp2
          go_ret
          exact ⟨rfl, HF3.out.trans hF.out⟩
set_option maxHeartbeats 4000000 in
set_option maxRecDepth 100000 in
theorem rplain_any {M : Nat} (A : Option Addr) (c : Nat) (rs : List Ru) (w : World) (h : SlRep 3 M RRu w (.slice A rs.length c) rs) (hM : M ≤ 9223372036854775807) (hS : Small rs) :
    Calls Tryz.prog 9 #[.slice A rs.length c] w fun e w' => e = .returned (.bool (plainP rs)) ∧ Fut w w' := by
  have hxl : rs.length ≤ 10000000 := hS.len
  have H := Lib.hid h
  have HS := Lib.hid hS
  have HO := Lib.hid (fun W (hW : Fut w W) => rone_any A c rs W (h.fut RRu.stays hW) hM hS)
  obtain ⟨r0, hr0⟩ : ∃ b, plainP rs = b := ⟨_, rfl⟩
  rw [hr0]
  unfold plainP at hr0
  replace hr0 := Lib.hid hr0
  clear h hS
  go_enter Tryz.func9, Tryz.ntmps9
  go_wp2_with fail
  go_loopw [3] (fun i wr => ∃ k : Nat, k ≤ rs.length ∧ i = .int .i64 k ∧ Hid (Fut w wr) ∧ Hid (∀ r ∈ rs.take k, r.makes = false)) (fun i _ => rs.length - (intOf i).toNat)
  case atStart => exact ⟨0, Nat.zero_le _, rfl, Lib.hid (Fut.refl _), Lib.hid (fun r hr => by simp at hr)⟩
  case round =>
    obtain ⟨k, hk, rfl, hF, hA⟩ := hrel
    obtain ⟨wq, rfl⟩ : ∃ x, x = wr := ⟨_, rfl⟩
    by_cases hlt : k < rs.length
    · have hltI : (k : Int) < rs.length := by omega
      have e0 : (0 : Int) ≤ k ∧ (k : Int) < rs.length := by omega
      obtain ⟨b', off, Ah, ch, Ab, cb, rfl, u0, u1, u2, hp, hh1, hh2⟩ := ru_at H.out hlt
      have htk := Lib.hid (List.take_succ_eq_append_getElem hlt)
      have hmem := Lib.hid (List.getElem_mem hlt)
      have hbd := HS.out.mem (List.getElem_mem hlt)
      generalize rs[k] = r at *
      have hcs9 := Lib.hid (three_cells (hF.out.cell u0) (hF.out.cell u1) (hF.out.cell u2))
      have hi3 := infoRuS9
      have HC := Lib.hid (rmakes_any r Ah Ab ch cb wq hp (hh1.fut RAr.stays hF.out) (hh2.fut RLt.stays hF.out) (by omega))
      clear u0 u1 u2 hh1 hh2 hp hbd
      obtain ⟨g, hg⟩ : ∃ g, r.makes = g := ⟨_, rfl⟩
      rw [hg] at HC
      replace hg := Lib.hid hg
      cases g
      · go_wp2_with (first | (show wpList _ _ _ (Oper.mk _ (Op.load 29 _) _ _ _ _ :: _) _ _; refine Go.wpList_load_mid rfl _ _ rfl b' (off + k * 3) rfl [.string r.p, .slice Ah r.h.length ch, .slice Ab r.b.length cb] _ hcs9.out Tryz.underlying29 rfl hi3 ?_))
        refine HC.out.mono ?_
        rintro e w3 ⟨rfl, f3⟩
        have F3 := Lib.hid (hF.out.trans f3)
        have HA4 := Lib.hid (show ∀ r ∈ rs.take (k + 1), r.makes = false from fun x hx => by
          rw [htk.out, List.mem_append] at hx
          rcases hx with hx | hx
          · exact hA.out x hx
          · rw [List.mem_singleton] at hx; subst hx; exact hg.out)
        clear f3 HC hF hA
        go_wp2
        go_roundw
        case rel => exact ⟨k + 1, by omega, by go_num, F3, HA4⟩
        case measure => simp [intOf] <;> omega
      · obtain rfl : r0 = false := by
          rw [← hr0.out]
          have h9 : rs.any Ru.makes = true := List.any_eq_true.2 ⟨r, hmem.out, hg.out⟩
          rw [h9]
          rfl
        go_wp2_with (first | (show wpList _ _ _ (Oper.mk _ (Op.load 29 _) _ _ _ _ :: _) _ _; refine Go.wpList_load_mid rfl _ _ rfl b' (off + k * 3) rfl [.string r.p, .slice Ah r.h.length ch, .slice Ab r.b.length cb] _ hcs9.out Tryz.underlying29 rfl hi3 ?_))
        refine HC.out.mono ?_
        rintro e w3 ⟨rfl, f3⟩
        go_wp2
        go_ret
        exact ⟨rfl, hF.out.trans f3⟩
    · obtain rfl : k = rs.length := by omega
      rw [List.take_length] at hA
      have hag : rs.any Ru.makes = false := List.any_eq_false.2 fun x hx => by rw [hA.out x hx]; decide
      have hr1 : oneP rs = r0 := by rw [← hr0.out, hag]; rfl
      have HC := HO.out wq hF.out
      rw [hr1] at HC
      replace HC := Lib.hid HC
      clear hr1 hr0 hag
      go_wp2_with fail
      refine HC.out.mono ?_
      rintro e w3 ⟨rfl, f3⟩
      go_wp2
      go_ret
      exact ⟨rfl, hF.out.trans f3⟩
end Go.Proofs.YtgcgmbegkfaifaaGreatDoor
/- depend.graph in memory: names in the order in which they came, each with its list. -/
namespace Go.Proofs.YtgcgmbegkfaifaaGreatDoor
open Go.RowKit Go.WideMaps Go.Maps
set_option linter.unusedSimpArgs false
set_option linter.unusedVariables false

abbrev Gr := List (ByteArray × List ByteArray)
def Gr.names (G : Gr) : List ByteArray := G.map (·.1)
def sucs (G : Gr) (s : ByteArray) : List ByteArray := ((G.find? fun x => decide (x.1 = s)).map (·.2)).getD []
def addG (G : Gr) (s : ByteArray) : Gr := if s ∈ G.names then G else G ++ [(s, [])]
def pushG (G : Gr) (s t : ByteArray) : Gr := G.map fun x => if x.1 = s then (x.1, x.2 ++ [t]) else x
def stepG (p : ByteArray) (G : Gr) (l : Lt) : Gr := addG (pushG G p l.p) l.p
def drawR (G : Gr) (r : Ru) : Gr := (r.b.filter Lt.isA).foldl (stepG r.p) (addG G r.p)
def drawP (rs : List Ru) : Gr := rs.foldl drawR []
abbrev tG : TypeId := 101
theorem zeroSl (w : World) : (zeroValue 47).run Tryz.prog w = .ok (.slice none 0 0) w := by kernel_rfl
/-- The graph G lies in map mb; its lists are the call's own, each in a block of its own. -/
def GrI (B : Nat) (W : World) (mb : Nat) (G : Gr) : Prop :=
  ∃ vs : List Value, vs.length = G.length ∧ MapE strV W mb (G.names.zip vs) ∧ (∀ (i : Nat) v x, vs[i]? = some v → G[i]? = some x → Nms B W v x.2) ∧ (∀ (i j : Nat) v u k, vs[i]? = some v → vs[j]? = some u → v.ownBlock = some k → u.ownBlock = some k → i = j) ∧
    (∀ x ∈ G, x.1.size ≤ 140737488351232 ∧ ∀ y ∈ x.2, y.size ≤ 140737488351232) ∧ B ≤ mb
theorem zip_fst {G : Gr} {vs : List Value} (h : vs.length = G.length) : (G.names.zip vs).map (·.1) = G.names := by
  rw [List.map_fst_zip]
  unfold Gr.names
  rw [List.length_map]
  omega
theorem zip_at {G : Gr} {vs : List Value} {i : Nat} {x : ByteArray × List ByteArray} {v : Value} (h1 : G[i]? = some x) (h2 : vs[i]? = some v) : (G.names.zip vs)[i]? = some (x.1, v) := by
  rw [List.getElem?_zip_eq_some]
  exact ⟨by unfold Gr.names; rw [List.getElem?_map, h1]; rfl, h2⟩
theorem names_at {G : Gr} {s : ByteArray} (h : s ∈ G.names) : ∃ (i : Nat) (S : List ByteArray), G[i]? = some (s, S) := by
  obtain ⟨x, hx, rfl⟩ := List.mem_map.1 h
  obtain ⟨i, hi⟩ := List.getElem?_of_mem hx
  exact ⟨i, x.2, hi⟩
theorem sucs_at {G : Gr} (hn : G.names.Nodup) {i : Nat} {s : ByteArray} {S : List ByteArray} (h : G[i]? = some (s, S)) : sucs G s = S := by
  have hv : ∀ (G : Gr) (i : Nat), G.names.Nodup → G[i]? = some (s, S) → G.find? (fun x => decide (x.1 = s)) = some (s, S) := by
    intro G
    induction G with
    | nil => intro i _ h; simp at h
    | cons x r ih =>
      intro i hn h
      unfold Gr.names at hn ih
      rw [List.map_cons, List.nodup_cons] at hn
      cases i with
      | zero =>
        simp at h
        subst h
        simp
      | succ i =>
        simp at h
        have hne : x.1 ≠ s := fun e => hn.1 (List.mem_map.2 ⟨(s, S), List.mem_of_getElem? h, e.symm⟩)
        rw [List.find?_cons_of_neg (by simpa using hne)]
        exact ih i hn.2 h
  unfold sucs
  rw [hv G i hn h]
  rfl
theorem sucs_none {G : Gr} {s : ByteArray} (h : s ∉ G.names) : sucs G s = [] := by
  unfold sucs
  rw [List.find?_eq_none.2 fun x hx => by
    simp only [decide_eq_true_eq]
    exact fun e => h (List.mem_map.2 ⟨x, hx, e⟩)]
  rfl
section
variable {B mb : Nat} {W w' w3 : World} {G : Gr} {s t : ByteArray}
theorem GrI.fut (h : GrI B W mb G) (hf : Fut W w') : GrI B w' mb G := by
  obtain ⟨vs, h1, h2, h3, h4, h5, h6⟩ := h
  exact ⟨vs, h1, h2.fut hf, fun i v x a b => (h3 i v x a b).fut RNm.stays hf, h4, h5, h6⟩
theorem GrI.nodup (h : GrI B W mb G) : G.names.Nodup := by
  obtain ⟨vs, h1, h2, _⟩ := h
  have := h2.nodup
  rwa [zip_fst h1] at this
theorem GrI.sizes (h : GrI B W mb G) : ∀ q ∈ G.names, q.size ≤ 140737488351232 := fun q hq => by
  obtain ⟨vs, _, _, _, _, h5, _⟩ := h
  obtain ⟨x, hx, rfl⟩ := List.mem_map.1 hq
  exact (h5 x hx).1
theorem zip_ok {vs : List Value} (hs : ∀ q ∈ G.names, q.size ≤ 140737488351232) : ∀ p ∈ G.names.zip vs, p.1.size ≤ maxLen := fun p hp => Nat.le_trans (hs _ (List.of_mem_zip hp).1) (by unfold maxLen; omega)
/-- What g[s] gives. -/
theorem GrI.look (h : GrI B W mb G) (hs : s.size ≤ 140737488351232) : ∃ v, Nms B W v (sucs G s) ∧ ∀ W', Fut W W' → (Instr.lookup tG (.map (some mb)) (.string s) false).run Tryz.prog W' = .ok v W' ∧ (Instr.lookup tG (.map (some mb)) (.string s) true).run Tryz.prog W' = .ok (.tuple #[v, .bool (decide (s ∈ G.names))]) W' := by
  have hz := h.sizes
  have hn := h.nodup
  obtain ⟨vs, h1, h2, h3, h4, h5, h6⟩ := h
  have HL := fun W' (hW : Fut W W') => (h2.fut hW).look (t := tG) keyStr (zip_ok hz) Tryz.underlying101 zeroSl (x := s) (Nat.le_trans hs (by unfold maxLen; omega))
  by_cases e : s ∈ G.names
  · obtain ⟨i, S, hi2⟩ := names_at e
    have hlt := (List.getElem?_eq_some_iff.1 hi2).1
    have hv : vs[i]? = some (vs[i]'(by omega)) := List.getElem?_eq_getElem (by omega)
    generalize vs[i]'(by omega) = v at hv
    have hg := getE_at h2.nodup (zip_at hi2 hv)
    refine ⟨v, by rw [sucs_at hn hi2]; exact h3 i v _ hv hi2, fun W' hW => ?_⟩
    have := HL W' hW
    rw [show getE (G.names.zip vs) s = some v from hg] at this
    rw [decide_eq_true e]
    exact this
  · have hg : getE (G.names.zip vs) s = none := getE_none fun p hp he => e (by rw [← he]; exact (List.of_mem_zip hp).1)
    refine ⟨.slice none 0 0, by rw [sucs_none e]; exact OwnL.nil, fun W' hW => ?_⟩
    have := HL W' hW
    rw [hg] at this
    rw [decide_eq_false e]
    exact this
/-- A name more. -/
theorem GrI.add (h : GrI B W mb G) (hs : s.size ≤ 140737488351232) (hn : s ∉ G.names) : ∃ w3, (Instr.mapUpdate tG (.map (some mb)) (.string s) (.slice none 0 0)).run Tryz.prog W = .ok () w3 ∧ W.grownBy w3 (some mb) ∧ GrI B w3 mb (addG G s) := by
  have hz := h.sizes
  obtain ⟨vs, h1, h2, h3, h4, h5, h6⟩ := h
  obtain ⟨w3, hr, h7, h8⟩ := h2.push (t := tG) keyStr (zip_ok hz) Tryz.underlying101 (x := s) (Nat.le_trans hs (by unfold maxLen; omega)) (fun p hp he => hn (by rw [← he]; exact (List.of_mem_zip hp).1)) (.slice none 0 0)
  have O : Only (fun k => k = mb) W w3 := Only.grown h8 fun k hk => (Option.some.inj hk).symm
  refine ⟨w3, hr, h8, vs ++ [.slice none 0 0], ?_, ?_, fun i v x hv hx => ?_, fun i j v u k hv hu hk hk2 => ?_, fun x hx => ?_, h6⟩
  · unfold addG; rw [if_neg hn, List.length_append, List.length_append, h1]; rfl
  · unfold addG
    rw [if_neg hn]
    have e1 : Gr.names (G ++ [(s, [])]) = G.names ++ [s] := by unfold Gr.names; rw [List.map_append]; rfl
    rw [e1, List.zip_append (by unfold Gr.names; rw [List.length_map]; omega)]
    exact h7
  · unfold addG at hx
    rw [if_neg hn] at hx
    by_cases hi : i < G.length
    · rw [List.getElem?_append_left (by omega)] at hv hx
      have h9 := h3 i v x hv hx
      exact h9.only (fun _ _ h => h) O fun k hk e => by
        obtain ⟨arr, hty⟩ := h9.typed k hk
        rw [e] at hty
        exact map_ne h2 hty rfl
    · have : i = G.length := by
        have := (List.getElem?_eq_some_iff.1 hx).1
        simp at this
        omega
      subst this
      rw [List.getElem?_append_right (by omega)] at hv hx
      simp [h1] at hv hx
      subst hv; subst hx
      exact OwnL.nil
  · have key : ∀ (i : Nat) v k, (vs ++ [Value.slice none 0 0])[i]? = some v → v.ownBlock = some k → vs[i]? = some v := fun i v k hv hk => by
      by_cases hi : i < vs.length
      · rwa [List.getElem?_append_left hi] at hv
      · have : i = vs.length := by
          have := (List.getElem?_eq_some_iff.1 hv).1
          simp at this
          omega
        subst this
        simp at hv
        subst hv
        cases hk
    exact h4 i j v u k (key i v k hv hk) (key j u k hu hk2) hk hk2
  · unfold addG at hx
    rw [if_neg hn] at hx
    rcases List.mem_append.1 hx with hx | hx
    · exact h5 x hx
    · rw [List.mem_singleton] at hx
      subst hx
      exact ⟨hs, fun y hy => by cases hy⟩
end
end Go.Proofs.YtgcgmbegkfaifaaGreatDoor
/- depend.graph.names. -/
namespace Go.Proofs.YtgcgmbegkfaifaaGreatDoor
open Go.RowKit Go.Maps Go.WideShapes
open Go.WideElems (Fit rd rg pl rd_val rg_of elemAt)
set_option linter.unusedSimpArgs false
set_option linter.unusedVariables false

theorem sorted_graph {w : World} {mb : Nat} {l : List (ByteArray × Value)} (h : MapE strV w mb l) (hk : ∀ q ∈ l, q.1.size ≤ maxLen) (hb : l.length ≤ 8796093022207) :
    Calls Tryz.prog 81 #[.func (.func 102) #[] #[.pointer (some ⟨w.heap.size, 0, none⟩)]] (w.alloc (.cells #[.map (some mb)] tG))
      fun e w' => ∃ v, e = .returned v ∧ OwnL 1 (w.heap.size + 1) 9 RNm w' v (sortU cmpS (l.map (·.1))) ∧ Fut (w.alloc (.cells #[.map (some mb)] tG)) w' := by
  have hnd := h.nodup
  obtain ⟨es, clock, hbk, hst, hes⟩ := h
  have hlen : es.size = l.length := by
    have := congrArg List.length hes
    simpa using this
  have hkey : ∀ x ∈ es.toList, ∃ q ∈ l, x.key = strV q.1 := fun x hx => by
    have hm : (x.key, x.val) ∈ es.toList.map (fun e => (e.key, e.val)) := List.mem_map.2 ⟨x, hx, rfl⟩
    rw [hes] at hm
    obtain ⟨q, hq, e⟩ := List.mem_map.1 hm
    injection e with e1 _
    exact ⟨q, hq, e1.symm⟩
  have hrd : ∀ x ∈ es.toList, ∀ q ∈ l, x.key = strV q.1 → rd Tryz.prog 9 (fun _ => some ((DataW.nil : DataW Unit), [])) x = some (.string q.1.data.toList, .nil) := fun x _ q hq e => by
    unfold rd
    rw [e, keyOf_str (hk q hq)]; rfl
  have F : Fit Tryz.prog 9 (fun _ => some ((DataW.nil : DataW Unit), [])) es clock := ⟨by unfold maxLen; omega, hst, fun x hx => by
    obtain ⟨q, hq, e⟩ := hkey x hx
    exact ⟨_, hrd x hx q hq e⟩⟩
  have hown := World.ownsMap_of_fit (R := fun _ => some ((DataW.nil : DataW Unit), [])) hbk F (fun _ _ _ h => h)
  have hsz : Maps.size (DataW.map ((es.toList.map (rg Tryz.prog 9 (fun _ => some ((DataW.nil : DataW Unit), [])))).foldr DataW.insert [])) = es.size := by simp [Maps.size, length_read]
  have hperm : (strKeys (DataW.map ((es.toList.map (rg Tryz.prog 9 (fun _ => some ((DataW.nil : DataW Unit), [])))).foldr DataW.insert []))).Perm ((l.map (·.1)).map (·.data.toList)) := by
    show (((es.toList.map (rg Tryz.prog 9 (fun _ => some ((DataW.nil : DataW Unit), [])))).foldr DataW.insert []).map fun p => strOf p.1).Perm _
    refine ((sorted_perm _).map _).trans ?_
    rw [List.map_map, List.map_map]
    have e2 : ∀ (xs : List MapEntry) (ql : List (ByteArray × Value)), (∀ x ∈ xs, x ∈ es.toList) → (∀ q ∈ ql, q ∈ l) → xs.map (fun e => (e.key, e.val)) = ql.map (fun p => (strV p.1, p.2)) →
        xs.map ((fun p => strOf p.1) ∘ rg Tryz.prog 9 (fun _ => some ((DataW.nil : DataW Unit), []))) = ql.map ((fun x => x.data.toList) ∘ fun x => x.1) := by
      intro xs
      induction xs with
      | nil => intro ql _ _ e; cases ql with
        | nil => rfl
        | cons a r => simp at e
      | cons x xs ih => intro ql h1 h2 e; cases ql with
        | nil => simp at e
        | cons q ql =>
          simp only [List.map_cons, List.cons.injEq, Prod.mk.injEq] at e
          rw [List.map_cons, List.map_cons, ih ql (fun y hy => h1 y (List.mem_cons_of_mem _ hy)) (fun y hy => h2 y (List.mem_cons_of_mem _ hy)) e.2]
          have h9 := rg_of (hrd x (h1 x List.mem_cons_self) q (h2 q List.mem_cons_self) e.1.1)
          simp only [Function.comp, h9, strOf]
    rw [e2 es.toList l (fun x hx => hx) (fun q hq => hq) hes]
  refine (callsIn_wide.1 (Tryz.slices_Sorted_keys_81_83 mb _ _ _ w hown (by rw [hsz]; unfold maxLen; omega) (by rw [hsz]; omega))).mono ?_
  rintro e w' ⟨v, ss, rfl, hS, hrow, _, hbw⟩
  have hm := merge_names (hS.trans hperm) hnd
  have ho := names_of_row (by rw [List.length_mergeSort]) hrow
  rw [hm] at ho
  have hs1 : (w.alloc (.cells #[.map (some mb)] tG)).heap.size = w.heap.size + 1 := by simp
  rw [hs1] at ho
  exact ⟨v, rfl, ho, hbw⟩
def Gr.sorted (G : Gr) : List ByteArray := sortU cmpS G.names
set_option maxHeartbeats 1000000 in
theorem names_any {B mb : Nat} {G : Gr} (w : World) (h : GrI B w mb G) (hb : G.length ≤ 100000000) :
    Calls Tryz.prog 52 #[.map (some mb)] w fun e w' => ∃ v, e = .returned v ∧ Nms w.heap.size w' v G.sorted ∧ Fut w w' := by
  have HK := fun W => (callsIn_wide.1 (Tryz.maps_Keys_83 (some mb) W))
  have hz := h.sizes
  obtain ⟨vs, h1, h2, _⟩ := h
  have HS := Lib.hid (sorted_graph h2 (zip_ok hz) (by rw [List.length_zip]; omega))
  rw [zip_fst h1] at HS
  have f0 := Fut.alloc w (.cells #[.map (some mb)] tG)
  clear h1 h2 hz
  replace HK := Lib.hid HK
  go_enter Tryz.func52, Tryz.ntmps52
  go_wp2_with fail
  refine (HK.out _).mono ?_
  rintro e w1 ⟨rfl, rfl⟩
  go_wp2_with fail
  refine HS.out.mono ?_
  rintro e w2 ⟨v, rfl, hv, hf⟩
  have HF := Lib.hid (And.intro (hv.base (Nat.le_succ _)) (f0.trans hf))
  clear hv hf
  go_wp2
  go_ret
  exact ⟨_, rfl, HF.out⟩
end Go.Proofs.YtgcgmbegkfaifaaGreatDoor
/- slices.Values, its iterator over names. -/
namespace Go.Proofs.YtgcgmbegkfaifaaGreatDoor
open Go.RowKit Go.Maps Go.WideShapes Go.Shelf
set_option linter.unusedSimpArgs false
set_option linter.unusedVariables false
attribute [local go_sem] Oper.semAt_some

theorem enc_name (x : ByteArray) : encStr x.data.toList = .string x := by
  unfold encStr
  simp
set_option maxRecDepth 100000 in
set_option maxHeartbeats 2000000 in
theorem values1_in {M m : Nat} (l Bs : Nat) (A : Option Addr) (c : Nat) (xs : List ByteArray) (w : World) (hsl : SlRep 1 M RNm w (.slice A xs.length c) xs) (hM : M ≤ 9223372036854775807) (hBs : w.cell? ⟨Bs, 0, none⟩ = some (.slice A xs.length c))
    (J : List (List UInt8) → World → Prop) (hJ : ∀ s W1, J s W1 → Fut w W1) (hY : ∀ pre x W1, J pre W1 → pre.length < xs.length → YieldAt Fence.wide m Tryz.prog l #[encStr x] W1 fun e W' => e = .returned (.bool true) ∧ J (pre ++ [x]) W') (W : World) (h0 : J [] W) :
    CallsIn Fence.wide (m + 1) Tryz.prog 101 #[.func (.yield l) #[] #[], .pointer (some ⟨Bs, 0, none⟩)] W fun e W' => (∃ v, e = .returned v) ∧ J (xs.map (·.data.toList)) W' := by
  obtain ⟨_, _, _, hl1, hl2⟩ := hsl.form
  have hxl : xs.length ≤ 9223372036854775807 := by omega
  have y0 := (hJ _ _ h0).cell hBs
  refine callsIn_of_wp Tryz.func101 rfl trivial ?_ rfl
  simp only [Tryz.ntmps101, List.size_toArray, List.length_cons, List.length_nil, Nat.reduceAdd, Nat.reduceSub, Array.replicate_succ, Array.replicate_zero, List.push_toArray, List.append_toArray, List.nil_append, List.cons_append]
  gi_wp2
  gi_loopw [7] (fun i wr => ∃ k : Nat, k ≤ xs.length ∧ i = .int .i64 k ∧ J ((xs.take k).map (·.data.toList)) wr) (fun i _ => xs.length - (intOf i).toNat)
  case atStart => exact ⟨0, Nat.zero_le _, rfl, h0⟩
  case round =>
    obtain ⟨k, hk, rfl, hJs⟩ := hrel
    by_cases hlt : k < xs.length
    · have hltI : (k : Int) < xs.length := by omega
      have e0 : (0 : Int) ≤ k ∧ (k : Int) < xs.length := by omega
      obtain ⟨b, off, rfl, z0⟩ := nm_at hsl hlt
      have z1 := (hJ _ _ hJs).cell z0
      have hnx := Lib.hid (show (xs.take (k + 1)).map (·.data.toList) = (xs.take k).map (·.data.toList) ++ [(xs[k]).data.toList] by rw [List.take_succ_eq_append_getElem hlt, List.map_append]; rfl)
      obtain ⟨fn, tmps, assign, body, hy, hR⟩ := hY _ (xs[k]).data.toList wr hJs (by rw [List.length_map, List.length_take]; omega)
      rw [enc_name] at hy
      generalize xs[k] = x at *
      gi_wp2
      refine hR.mono ?_
      rintro e W3 ⟨rfl, hJ3⟩
      rw [← hnx.out] at hJ3
      gi_wp2
      go_roundw
      case rel => exact ⟨k + 1, by omega, by go_num, hJ3⟩
      case measure => simp [intOf] <;> omega
    · obtain rfl : k = xs.length := by omega
      rw [List.take_length] at hJs
      gi_wp2
      go_end0
      exact ⟨⟨_, rfl⟩, hJs⟩
end Go.Proofs.YtgcgmbegkfaifaaGreatDoor
/- slices.AppendSeq, Collect, Sorted of the iterator of slices.Values. -/
namespace Go.Proofs.YtgcgmbegkfaifaaGreatDoor
open Go.RowKit Go.Maps Go.WideShapes Go.Shelf
set_option linter.unusedSimpArgs false
set_option linter.unusedVariables false

abbrev rhoS := Tryz.sorted81_ren
set_option maxRecDepth 100000 in
set_option maxHeartbeats 2000000 in
theorem appendV_in {M : Nat} (Bv : Nat) (A : Option Addr) (c : Nat) (xs : List ByteArray) (w : World) (hsl : SlRep 1 M RNm w (.slice A xs.length c) xs) (hM : M ≤ 9223372036854775807) (hBs : w.cell? ⟨Bv, 0, none⟩ = some (.slice A xs.length c)) (hl : xs.length ≤ 1000000000) :
    CallsIn Fence.wide 3 Tryz.prog 120 #[.slice none 0 0, .func (.func 101) #[] #[.pointer (some ⟨Bv, 0, none⟩)]] w fun e w' => ∃ v, e = .returned v ∧ w'.ownsRow w.heap.size 9 1 v xs.length ((xs.map (·.data.toList)).map encStr) ∧ (v = .slice none 0 0 ↔ xs.map (·.data.toList) = []) ∧ Fut w w' := by
  have L := Tryz.sorted81
  have eg : ∀ args W, (callFunc 101 args).run Tryz.prog W = .ok (.enter 101 args) W := fun args W => by kernel_rfl
  have hro : Fence.wide.round = none := rfl
  refine callsIn_of_wp_marks Tryz.func120 rfl trivial ?_ hro
  simp only [Tryz.ntmps120, List.size_toArray, List.length_cons, List.length_nil, Nat.reduceAdd, Nat.reduceSub, Array.replicate_succ, Array.replicate_zero, List.push_toArray, List.append_toArray, List.nil_append, List.cons_append]
  gi_wp2
  refine wpIn_rangeFunc ?_
  intro fn hfn
  rw [hro]
  -- the box of what has come; the deferred list; the loop's record
  obtain ⟨Wb, hWb⟩ : ∃ W, w.alloc (.cells #[.slice none 0 0] 47) = W := ⟨_, rfl⟩
  have zb : Wb.heap.size = w.heap.size + 1 := by rw [← hWb]; simp
  have bb : Wb.heap[w.heap.size]? = some (.cells #[.slice none 0 0] 47 (0, 0)) := by rw [← hWb]; exact heap_alloc_new w _
  have fb : Fut w Wb := by rw [← hWb]; exact Fut.alloc _ _
  rw [hWb]
  obtain ⟨sv, hsv⟩ : ∃ v, Value.func (.func 101) #[] #[.pointer (some ⟨Bv, 0, none⟩)] = v := ⟨_, rfl⟩
  obtain ⟨rec, hrec⟩ : ∃ r, AnyZ.apRec rhoS fn sv w.heap.size Wb.heap.size .ready none = r := ⟨_, rfl⟩
  obtain ⟨Wl, hWl⟩ : ∃ W, (Wb.alloc (.deferred (some []))).alloc (.loop rec) = W := ⟨_, rfl⟩
  have f1 := Fut.alloc Wb (.deferred (some []))
  have f2 := Fut.alloc (Wb.alloc (.deferred (some []))) (.loop rec)
  have zd : (Wb.alloc (.deferred (some []))).heap.size = Wb.heap.size + 1 := by simp
  have dl : Wl.heap[Wb.heap.size]? = some (.deferred (some [])) := by rw [← hWl]; exact f2.block (heap_alloc_new Wb _)
  have ll : Wl.heap[Wb.heap.size + 1]? = some (.loop rec) := by
    rw [← hWl]
    have := heap_alloc_new (Wb.alloc (.deferred (some []))) (.loop rec)
    rwa [zd] at this
  have fl : Fut Wb Wl := by rw [← hWl]; exact f1.trans f2
  have H0 : AnyZ.ApAt rhoS w fn sv w.heap.size (Wb.heap.size + 1) Wb.heap.size [] Wl :=
    ⟨⟨_, fl.block bb, ⟨rfl, .inl ⟨rfl, rfl⟩⟩, by simp⟩, by rw [ll, ← hrec], dl, fb.trans fl⟩
  refine ⟨Wb.heap.size + 1, [{ target := .collected Wb.heap.size, args := #[] }], Wl, { target := .fn (.func 101) #[.pointer (some ⟨Bv, 0, none⟩)], args := #[.func (.yield (Wb.heap.size + 1)) #[] #[]] }, Wl, 101,
    #[.func (.yield (Wb.heap.size + 1)) #[] #[]] ++ #[.pointer (some ⟨Bv, 0, none⟩)], Wl, ?_, ?_, ?_, ?_, fun _ => by decide, ?_⟩
  · rw [← hWl, ← hrec, ← hsv]; exact run_enterLoop_outer _ _ _ _ _
  · simp [resolve, go_sem]
  · intro f' hf'; simp [Target.leads] at hf'; subst hf'; trivial
  · simp [invoke, go_sem, eg]
  · refine (values1_in (m := 1) (Wb.heap.size + 1) Bv A c xs w hsl hM hBs (AnyZ.ApAt rhoS w fn sv w.heap.size (Wb.heap.size + 1) Wb.heap.size) (fun s W1 h => h.below)
      (fun pre x W1 hJ hlt => ?_) Wl H0).mono ?_
    · obtain ⟨a1, a2, a3, a4, a5, a6⟩ := AnyZ.apYield { L with } Fence.wide 1 w fn hfn sv w.heap.size (Wb.heap.size + 1) Wb.heap.size (by omega) (by omega) (by omega) (Nat.le_refl _) (by omega) 1000000000 (by unfold maxLen; omega) (by omega) pre x W1 hJ (by omega)
      exact ⟨a1, a2, a3, a4, a5, a6.mono fun e W' h => ⟨h.1, h.2.1⟩⟩
    · rintro e W2 ⟨⟨v0, rfl⟩, h2⟩
      obtain ⟨v, hv, hrow, hnil⟩ := h2.box
      have hne : 47 ≠ 9 := by decide
      have hend := run_endLoop (P := Tryz.prog) h2.L (by simp [AnyZ.apRec])
      obtain ⟨W3, hW3⟩ : ∃ W, W2.putObj (Wb.heap.size + 1) (.loop { AnyZ.apRec rhoS fn sv w.heap.size Wb.heap.size .ready none with state := .exhausted }) = W := ⟨_, rfl⟩
      rw [hW3] at hend
      have g3 : W2.grownBy W3 (some (Wb.heap.size + 1)) := by rw [← hW3]; exact grownBy_putObj_a _ _ _
      have hv3 : W3.heap[w.heap.size]? = some (.cells #[v] 47 (0, 0)) := by rw [← hW3]; exact (World.putObj_heap_other (by omega)).trans hv
      have hK3 : W3.heap[Wb.heap.size]? = some (.deferred (some [])) := by rw [← hW3]; exact (World.putObj_heap_other (by omega)).trans h2.K
      have hrow3 := hrow.kept g3 (ownsRow_ne_a hrow h2.L (fun cur e => by cases e))
      have hb3 : Fut w W3 := Below.grown h2.below g3 h2.below.size (fun k e => by cases e; omega)
      obtain ⟨hc3, hf3⟩ := cell_of_box_a hv3
      clear hW3
      rw [List.length_map] at hrow3
      refine ⟨none, W3, hend, ?_⟩
      gi_wp2
      rw [← zb]
      refine ⟨by simp, .inl ⟨_, _, rfl, run_takeDeferred hK3, ?_⟩⟩
      have hg4 := grownBy_putObj_a W3 Wb.heap.size (.deferred none)
      exact ⟨_, results_tmp rfl _ _ _, v, rfl, hrow3.kept (grownBy_putObj_a _ _ _) (ownsRow_ne_a hrow3 hK3 (fun cur e => by cases e)), hnil, Below.grown hb3 (grownBy_putObj_a _ _ _) hb3.size (fun k e => by cases e; omega)⟩
end Go.Proofs.YtgcgmbegkfaifaaGreatDoor
