/- Parts. -/
import Derived.Test.YtdjffkkbjbiihaaGreatDoorE21
set_option linter.unusedSimpArgs false
set_option linter.unusedVariables false
namespace Go.Proofs.YtdjffkkbjbiihaaGreatDoor
open Go.RowKit Go.WideMaps Go.Maps
theorem gsorted_len (G : Gr) : G.sorted.length ≤ G.length := by
 have hi : ∀ (x : ByteArray) (m : List ByteArray), (insU cmpS x m).length ≤ m.length + 1 := fun x m => by
  induction m with
  | nil => simp [insU]
  | cons y r ih =>
   unfold insU
   split
   ·simp
   ·split
    ·simp
    ·simp only [List.length_cons]; omega
 have hs : ∀ l : List ByteArray, (sortU cmpS l).length ≤ l.length := fun l => by
  induction l with
  | nil => simp [sortU]
  | cons x r ih =>
   have h := hi x (sortU cmpS r)
   show (insU cmpS x (sortU cmpS r)).length ≤ _
   rw [List.length_cons]; omega
 have := hs G.names
 unfold Gr.names at this
 rw [List.length_map] at this
 exact this
set_option maxHeartbeats 4000000 in
set_option maxRecDepth 100000 in
theorem levelsG_any {M : Nat} (A : Option Addr) (c : Nat) (rs : List Ru) (w : World) (h : SlRep 3 M RRu w (.slice A rs.length c) rs) (hM : M ≤ 9223372036854775807) (hS : Small rs) (N : Nat) (T : TS) (hT : tarjT (drawP rs) N = some T) (hGl : (drawP rs).length ≤ 100000000) (hx : blameE T.inn (edgesP rs) = none) (nf : Nums) (f0 : Nat) (hf0 : raiseR (edgesP rs) f0 [] = some nf) :
    Calls Tryz.prog 8 #[.agg #[.slice A rs.length c]] w fun e w' => ∃ v, e = .returned (.tuple #[v, .int .i64 0, .int .i64 0]) ∧ OwnL 2 w.heap.size tLev RLv w' v ((drawP rs).sorted.map fun s => (s, lk0 nf s)) ∧ Fut w w' := by
 obtain ⟨_, _, hv, hl1, hl2⟩ := h.form
 have hxl : rs.length ≤ 9223372036854775807 := by omega
 have HE := Lib.hid (fun W (hW : Fut w W) => edges_any A c rs W (h.fut RRu.stays hW) hM hS)
 have HD := Lib.hid (fun W (hW : Fut w W) => draw_any A c rs W (h.fut RRu.stays hW) hM hS)
 have HO := Lib.hid (edgeP_ok h)
 have HN := hS.edges
 obtain ⟨es, hes⟩ : ∃ es, edgesP rs = es := ⟨_, rfl⟩
 obtain ⟨G, hG9⟩ : ∃ G, drawP rs = G := ⟨_, rfl⟩
 simp only [hes] at HE HO HN hx hf0
 simp only [hG9] at HD hT hGl ⊢
 have hbx := heap_alloc_new w (.cells #[.slice A rs.length c] 31)
 have F0 := Lib.hid (Fut.alloc w (.cells #[.slice A rs.length c] 31))
 have c0 := cell_at hbx 0 (.slice A rs.length c) rfl
 have hT' := Lib.hid hT
 have hGl' := Lib.hid hGl
 have hx' := Lib.hid hx
 have hf0' := Lib.hid hf0
 replace HN := Lib.hid HN
 clear h hS hl1 hl2 hv hbx hT hGl hx hes hG9 hf0
 go_enter Tryz.func8, Tryz.ntmps8
 go_wp2_with fail
 refine wp_scope_jumps2 0 (fun a W => ∃ f, LevJ w es G nf f a W) (LevM w es G nf) rfl ?pass ?first
 case pass =>
  intro a W hJ
  obtain ⟨f, hJ⟩ := hJ
  have hm9 := leastF_spec (p := fun f => LevJ w es G nf f a W) hJ
  rw [show LevM w es G nf a W = leastF (fun f => LevJ w es G nf f a W) from rfl]
  generalize leastF (fun f => LevJ w es G nf f a W) = m at *
  obtain ⟨hJ, -⟩ := hm9
  obtain ⟨Ae, ce, mb, mbl, n, wb, F0b, HO3, HG, HB, FB, HM, HK, HR, z0, z1, z2, z3, z4, z7, z8, z9, z10, z12, z13, z14, z15, z16, z17, z18, z19, z20, z21, z22, z23, z24, z25, z26, z27, z28, z29, z30, z31, z32, z33, z34, z35, z36, z37, z38, z39, z40, z41, z42, z43, z44, z45, z46, z47, z48, z49, z50, z51, z52, z53, z54, z55, z56, z57, z58, z59, z60, z61, z62, z63, z64, z65, z66, z67, z68, z69, z70, z71, z72, z73, z74, z75, z76, z77, z78, z79, z80, z81, z82, z83, z84, z85, z86, z87, z88, z89, z90, z91, z92, z93, z94, z95, z96, z97, z98, z99, z100, z101, z102, z103, z104, z105, rfl⟩ := hJ
  obtain ⟨m', rfl, hb8, hr1, hr2⟩ := raise_ok HR.out
  have HR1 := Lib.hid hr1
  have HR2 := Lib.hid hr2
  clear hr1 hr2 hb8 HR
  obtain ⟨_, _, hel0, hel1, hel2⟩ := HO3.out.rep.form
  have hel3 : es.length ≤ 9223372036854775807 := by unfold maxLen at hel2; omega
  clear hel0 hel1 hel2 HE HD hx' hT' c0
  go_wp2_with fail
  go_loopw [12, 64] (fun r i wr => ∃ (k : Nat) (st : Nums × Bool), k ≤ es.length ∧ i = .int .i64 k ∧ r = .bool st.2 ∧ Hid ((es.take k).foldl stepR (n, false) = st) ∧ Hid (Fut wb wr) ∧ Hid (MapE strV wr mbl (encQ st.1))) (fun _ i _ => es.length - (intOf i).toNat)
  case atStart => exact ⟨0, (n, false), Nat.zero_le _, rfl, rfl, Lib.hid rfl, FB, HM⟩
  case round =>
   obtain ⟨k, ⟨n1, r1⟩, hk, rfl, rfl, hS, hF, hMm⟩ := hrel
   dsimp only at *
   have hok := hS.out ▸ OkN.fold (es.take k) (s := (n, false)) HK.out (fun e he => (HO.out e (List.mem_of_mem_take he)).1)
   rw [List.length_take] at hok
   have HOk := Lib.hid hok
   clear hok
   by_cases hlt : k < es.length
   ·have hltI : (k : Int) < es.length := by omega
    have e0 : (0 : Int) ≤ k ∧ (k : Int) < es.length := by omega
    obtain ⟨b', off, rfl, hcs⟩ := ed_at' (HO3.out.fut REd.stays hF.out).rep hlt
    have hsn := Lib.hid (show (es.take (k + 1)).foldl stepR (n, false) = stepR (n1, r1) es[k] by rw [List.take_succ_eq_append_getElem hlt, List.foldl_append, hS.out]; rfl)
    have hsz := HO.out _ (List.getElem_mem hlt)
    have hN9 := HN.out
    obtain ⟨y, hyk⟩ : ∃ y, es[k] = y := ⟨_, rfl⟩
    rw [hyk] at hcs hsn hsz
    clear hyk
    obtain ⟨w4, hw4⟩ : ∃ W, wr.alloc (.cells [.string y.f, .string y.t, .int .i8 y.k, .int .i64 y.r].toArray 92) = W := ⟨_, rfl⟩
    have f1 : Fut wr w4 := by rw [← hw4]; exact Fut.alloc _ _
    have hrb : w4.heap[wr.heap.size]? = some (.cells #[.string y.f, .string y.t, .int .i8 y.k, .int .i64 y.r] 92 (0, 0)) := by rw [← hw4]; exact heap_alloc_new wr _
    have q0 := cell_at hrb 0 (.string y.f) rfl
    have q1 := cell_at hrb 1 (.string y.t) rfl
    have q2 := cell_at hrb 2 (.int .i8 y.k) rfl
    have q3 := cell_at hrb 3 (.int .i64 y.r) rfl
    have hm4 := hMm.out.fut f1
    have l1 : (Instr.lookup tVq (.map (some mbl)) (.string y.f) false).run Tryz.prog w4 = .ok (.int .i32 (lk0 n1 y.f : Nat)) w4 := (look_q hm4 HOk.out.nm hsz.1).2
    have l2 : (Instr.lookup tVq (.map (some mbl)) (.string y.t) false).run Tryz.prog w4 = .ok (.int .i32 (lk0 n1 y.t : Nat)) w4 := (look_q hm4 HOk.out.nm hsz.2).2
    have p9 := lk0_le HOk.out.le y.f
    have q9 := lk0_le HOk.out.le y.t
    have hone : ∀ v ∈ ([.string y.f, .string y.t, .int .i8 y.k, .int .i64 y.r] : List Value), v.oneCell' = true := fun v hv => by
     simp only [List.mem_cons, List.not_mem_nil, or_false] at hv
     rcases hv with rfl | rfl | rfl | rfl <;> rfl
    have hw4h := Lib.hid hw4
    have hcs9 := Lib.hid hcs
    have FN := Lib.hid (hF.out.trans f1)
    have HM4 := Lib.hid hm4
    have hset := Lib.hid (fun v => set_q hm4 HOk.out.nm hsz.1 v)
    have fin : ∀ v w5, MapE strV w5 mbl (encQ (setN n1 y.f v)) → w4.grownBy w5 (some mbl) → Hid (Fut wb w5) ∧ Hid (MapE strV w5 mbl (encQ (setN n1 y.f v, true).1)) := fun v w5 h1 h2 => ⟨Lib.hid (FN.out.grown h2 fun k hk => by injection hk with hk; rw [← hk]; exact HB.out), Lib.hid h1⟩
    have HFin := Lib.hid fin
    clear hw4 f1 hrb hcs hsz hm4 fin
    unfold stepR Ed.wants Ed.strict at hsn
    dsimp only at hsn
    generalize lk0 n1 y.f = pf at *
    generalize lk0 n1 y.t = pt at *
    by_cases e1 : y.k = 1
    ·rw [e1] at hsn
     have hsn1 : (if (!decide ((1 : Int) = 1)) = true then pt + 1 else pt) = pt := rfl
     rw [hsn1] at hsn
     have e2 : (y.k == 1) = true := by rw [e1]; rfl
     have e3 : (y.k != 1) = false := by rw [e1]; rfl
     by_cases e4 : pf < pt
     ·rw [if_pos e4] at hsn
      have e5 : (pf : Int) < (pt : Int) := by omega
      obtain ⟨w5, hr5, h6, h7⟩ := hset.out pt
      obtain ⟨HF5, HM5⟩ := HFin.out pt w5 h6 h7
      clear h6 h7 hset
      go_wp2_with (first | (refine wpList_rangeBox [.string y.f, .string y.t, .int .i8 y.k, .int .i64 y.r] rfl rfl rfl rfl rfl rfl rfl hcs9.out Tryz.underlying92 infoEdZ' rfl hone rfl rfl hw4h.out ?_))
      go_roundw
      case rel => exact ⟨k + 1, (_, true), by omega, by go_num, rfl, hsn, HF5, HM5⟩
      case measure => simp [intOf] <;> omega
     ·rw [if_neg e4] at hsn
      have e5 : ¬ (pf : Int) < (pt : Int) := by omega
      go_wp2_with (first | (refine wpList_rangeBox [.string y.f, .string y.t, .int .i8 y.k, .int .i64 y.r] rfl rfl rfl rfl rfl rfl rfl hcs9.out Tryz.underlying92 infoEdZ' rfl hone rfl rfl hw4h.out ?_))
      go_roundw
      case rel => exact ⟨k + 1, (n1, r1), by omega, by go_num, rfl, hsn, FN, HM4⟩
      case measure => simp [intOf] <;> omega
    ·have e2 : (y.k == 1) = false := by rw [beq_eq_false_iff_ne]; exact e1
     have e3 : (y.k != 1) = true := by simp [bne, e2]
     rw [decide_eq_false e1] at hsn
     have hsn1 : (if (!false) = true then pt + 1 else pt) = pt + 1 := rfl
     rw [hsn1] at hsn
     have ew : IntKind.i32.wrap ((pt : Int) + 1) = (pt : Int) + 1 := by
      unfold IntKind.wrap; simp [IntKind.bits, IntKind.signed]; omega
     by_cases e4 : pf < pt + 1
     ·rw [if_pos e4] at hsn
      have e5 : (pf : Int) < (pt : Int) + 1 := by omega
      have e6 : (pf : Int) ≤ (pt : Int) := by omega
      have e7 : pf ≤ pt := by omega
      obtain ⟨w5, hr5, h6, h7⟩ := hset.out (pt + 1)
      rw [show ((pt + 1 : Nat) : Int) = (pt : Int) + 1 from by omega] at hr5
      obtain ⟨HF5, HM5⟩ := HFin.out (pt + 1) w5 h6 h7
      clear h6 h7 hset
      go_wp2_with (first | (refine wpList_rangeBox [.string y.f, .string y.t, .int .i8 y.k, .int .i64 y.r] rfl rfl rfl rfl rfl rfl rfl hcs9.out Tryz.underlying92 infoEdZ' rfl hone rfl rfl hw4h.out ?_))
      go_roundw
      case rel => exact ⟨k + 1, (_, true), by omega, by go_num, rfl, hsn, HF5, HM5⟩
      case measure => simp [intOf] <;> omega
     ·rw [if_neg e4] at hsn
      have e5 : ¬ (pf : Int) < (pt : Int) + 1 := by omega
      have e6 : ¬ (pf : Int) ≤ (pt : Int) := by omega
      have e7 : ¬ pf ≤ pt := by omega
      go_wp2_with (first | (refine wpList_rangeBox [.string y.f, .string y.t, .int .i8 y.k, .int .i64 y.r] rfl rfl rfl rfl rfl rfl rfl hcs9.out Tryz.underlying92 infoEdZ' rfl hone rfl rfl hw4h.out ?_))
      go_roundw
      case rel => exact ⟨k + 1, (n1, r1), by omega, by go_num, rfl, hsn, FN, HM4⟩
      case measure => simp [intOf] <;> omega
   ·obtain rfl : k = es.length := by omega
    rw [List.take_length] at hS
    have hrr : roundR es n = (n1, r1) := hS.out
    have hx1 := HR1.out
    have hx2 := HR2.out
    rw [hrr] at hx1 hx2
    cases r1
    ·obtain rfl : n1 = nf := hx2 rfl
     have HNm := Lib.hid (names_any wr (HG.out.fut hF.out) hGl'.out)
     have hGz := HG.out.sizes
     have FWr := Lib.hid (F0b.out.trans hF.out)
     have hMm2 := Lib.hid hMm.out
     have HNam := Lib.hid HOk.out.nm
     clear hS hrr hx1 hx2 HR1 HR2 HK HOk hlt hk hel3 HO3 HG
     go_wp2_with fail
     refine HNm.out.mono ?_
     rintro e w6 ⟨vn, rfl, hvn, f6⟩
     have hGs := Lib.hid (show ∀ x ∈ G.sorted, x.size ≤ 140737488351232 from fun x hx => hGz x (((sortU_spec totS _).2 x).1 hx))
     obtain ⟨Nl, hNl⟩ : ∃ x, G.sorted = x := ⟨_, rfl⟩
     have hlen : Nl.length ≤ 100000000 := by
      rw [← hNl]
      exact Nat.le_trans (gsorted_len G) hGl'.out
     rw [hNl] at hvn hGs
     obtain ⟨Av, cv, rfl, hvl, hvc⟩ := hvn.rep.form
     have hns := Lib.hid hvn
     have hNl' := Lib.hid hNl
     have F6 := Lib.hid (FWr.out.trans f6)
     have M6 := Lib.hid (hMm2.out.fut f6)
     have hvl0 : Nl.length ≤ 9223372036854775807 := by omega
     have HL := Lib.hid hlen
     have hzW := Lib.hid FWr.out.size
     clear hvn hNl hGz f6 hvl hvc HNm hlen
     go_wp2_with fail
     go_loopw [16, 92] (fun u i wq => ∃ k : Nat, k ≤ Nl.length ∧ i = .int .i64 k ∧ Hid (OwnL 2 w6.heap.size tLev RLv wq u ((Nl.take k).map fun s => (s, lk0 n1 s))) ∧ Hid (Fut w6 wq)) (fun _ i _ => Nl.length - (intOf i).toNat)
     case atStart => exact ⟨0, Nat.zero_le _, rfl, Lib.hid OwnL.nil, Lib.hid (Fut.refl _)⟩
     case round =>
      obtain ⟨k, hk, rfl, hI, hF6⟩ := hrel
      obtain ⟨wq, rfl⟩ : ∃ x, x = wr := ⟨_, rfl⟩
      by_cases hlt : k < Nl.length
      ·have hltI : (k : Int) < Nl.length := by omega
       have e0 : (0 : Int) ≤ k ∧ (k : Int) < Nl.length := by omega
       obtain ⟨b', off, rfl, z0⟩ := nm_at (hns.out.fut (fun _ _ _ _ _ h => h) hF6.out).rep hlt
       have hnx := Lib.hid (show (Nl.take (k + 1)).map (fun s => (s, lk0 n1 s)) = (Nl.take k).map (fun s => (s, lk0 n1 s)) ++ [(Nl[k], lk0 n1 Nl[k])] by rw [List.take_succ_eq_append_getElem hlt, List.map_append]; rfl)
       have htz := hGs.out _ (List.getElem_mem hlt)
       generalize Nl[k] = t at *
       have l1 := (look_q (M6.out.fut hF6.out) HNam.out htz).2
       have hB9 : w6.heap.size ≤ wq.heap.size := hF6.out.size
       have hl8 : ((Nl.take k).map (fun s => (s, lk0 n1 s))).length ≤ 100000000 := by rw [List.length_map, List.length_take]; have := HL.out; omega
       have hnq : lk0 n1 t = (lkN n1 t).getD 0 := rfl
       rw [← hnq] at l1
       clear hnq
       generalize lk0 n1 t = pt at *
       have hIo := hI.out
       generalize ((Nl.take k).map (fun s => (s, lk0 n1 s))) = L9 at *
       obtain ⟨Ao, co, rfl, _, _⟩ := hIo.rep.form
       replace hIo := Lib.hid hIo
       go_wp2_with (first | (at_builtin; refine wpList_append_LB (R := RLv) (B := w6.heap.size) (M := 1) (xs := L9) (ys := [(t, pt)]) (e := tLev) (by go_simp) _ _ 26 rfl Tryz.underlying26 (.agg #[.string ⟨#[]⟩, .int .i32 0]) 24 infoLv rfl (by decide) RLv.one RLv.keeps rfl rfl (hIo.out.fut RLv.stays (Fut.alloc _ _)) (lvOne _ t pt _) ?l3 ?l4 ?b3 ?k3))
       case l3 => simp [maxLen]; omega
       case l4 => simp; omega
       case b3 => simp; omega
       case k3 =>
       intro v' w' o' g' sn'
       have HO9 := Lib.hid (by rw [← hnx.out] at o'; exact o')
       have HF9 := Lib.hid ((hF6.out.trans (Fut.alloc wq _)).grown g' fun k hk => (hIo.out.block k hk).1)
       clear o' g' sn'
       go_wp2
       go_roundw
       case rel => exact ⟨k + 1, by omega, by go_num, HO9, HF9⟩
       case measure => simp [intOf] <;> omega
      ·obtain rfl : k = Nl.length := by omega
       rw [List.take_length] at hI
       obtain ⟨Ao, co, rfl, hol, _⟩ := hI.out.rep.form
       have HFin := Lib.hid (show OwnL 2 w.heap.size tLev RLv wq (.slice Ao ((Nl.map fun s => (s, lk0 n1 s))).length co) (Nl.map fun s => (s, lk0 n1 s)) ∧ Fut w wq from ⟨hI.out.base F6.out.size, F6.out.trans hF6.out⟩)
       have hNl2 := hNl'.out
       clear hI hF6 hol F6 M6 HNam hGs hns hNl' HL hzW hvl0
       generalize ((Nl.map fun s => (s, lk0 n1 s))).length = ln at *
       go_wp2
       (try rw [Exit.noGoto_ret])
       (try simp only [Exit.inBlock, Exit.then])
       (try rw [Exit.noGoto_ret])
       simp only [Exit.jump]
       refine bodyPost_ret (v := .tuple #[.slice Ao ln co, .int .i64 0, .int .i64 0]) (by simp [results, Tryz.results8, go_sem]) rfl ?_
       rw [hNl2]
       exact ⟨_, rfl, HFin.out.1, HFin.out.2⟩
    ·obtain ⟨m'', rfl, hb9, -⟩ := raise_ok (hx1 rfl)
     have HJ : ∀ a, (∃ (z0 z1 z2 z3 z4 z7 z8 z9 z10 z12 z13 z14 z15 z16 z17 z18 z19 z20 z21 z22 z23 z24 z25 z26 z27 z28 z29 z30 z31 z32 z33 z34 z35 z36 z37 z38 z39 z40 z41 z42 z43 z44 z45 z46 z47 z48 z49 z50 z51 z52 z53 z54 z55 z56 z57 z58 z59 z60 z61 z62 z63 z64 z65 z66 z67 z68 z69 z70 z71 z72 z73 z74 z75 z76 z77 z78 z79 z80 z81 z82 z83 z84 z85 z86 z87 z88 z89 z90 z91 z92 z93 z94 z95 z96 z97 z98 z99 z100 z101 z102 z103 z104 z105 : Value), a = (⟨#[z0, z1, z2, z3, z4, .slice Ae es.length ce, .map (some mb), z7, z8, z9, z10, .map (some mbl), z12, z13, z14, z15, z16, z17, z18, z19, z20, z21, z22, z23, z24, z25, z26, z27, z28, z29, z30, z31, z32, z33, z34, z35, z36, z37, z38, z39, z40, z41, z42, z43, z44, z45, z46, z47, z48, z49, z50, z51, z52, z53, z54, z55, z56, z57, z58, z59, z60, z61, z62, z63, z64, z65, z66, z67, z68, z69, z70, z71, z72, z73, z74, z75, z76, z77, z78, z79, z80, z81, z82, z83, z84, z85, z86, z87, z88, z89, z90, z91, z92, z93, z94, z95, z96, z97, z98, z99, z100, z101, z102, z103, z104, z105], []⟩ : Act)) → LevJ w es G nf (m'' + 1) a wr := fun a ha => ⟨Ae, ce, mb, mbl, n1, wb, F0b, HO3, HG, HB, hF, hMm, Lib.hid ⟨HOk.out.nm, hb9⟩, Lib.hid (hx1 rfl), ha⟩
     have HJ9 := Lib.hid HJ
     clear hS hrr hx1 hx2 HR1 HR2 HK HOk hlt hk hel3 HJ hb9
     go_wp2_with fail
     go_step3
     refine ⟨rfl, lev_next (HJ9.out _ ⟨_, _, _, _, _, _, _, _, _, _, _, _, _, _, _, _, _, _, _, _, _, _, _, _, _, _, _, _, _, _, _, _, _, _, _, _, _, _, _, _, _, _, _, _, _, _, _, _, _, _, _, _, _, _, _, _, _, _, _, _, _, _, _, _, _, _, _, _, _, _, _, _, _, _, _, _, _, _, _, _, _, _, _, _, _, _, _, _, _, _, _, _, _, _, _, _, _, _, _, _, _, _, _, rfl⟩)⟩
 case first =>
  intro HP
  go_wp2_with fail
  refine wp_graph 4 [.d, .r (fun v W => OwnL 4 w.heap.size tEdge REd W v es), .d, .r (fun v W => ∃ mb, v = .map (some mb) ∧ GrI w.heap.size W mb G)] (by kernel_rfl) (by kernel_rfl) (by kernel_rfl) ?_
  simp only [takS, Exs]
  iterate 2 apply Exists.intro
  apply Run.valG (wanted_none rfl _)
  ·intro w1 h1 hk
   have q0 := h1.cell c0; have hg := F0.out.trans ((Fut.drew _).trans h1); have hgs := hg.size
   have hcw := fun b o => Below.cell (p := ⟨b, o, none⟩) h1
   go_simp; rfl
  simp only [actS]
  apply Run.callR (wanted_none rfl _) (by intro v w w' hf hs; exact hs.fut REd.stays hf) (fun _ _ => by go_simp; exact ⟨rfl, rfl⟩)
  ·intro w1 h1 hk
   have q0 := h1.cell c0; have hg := F0.out.trans ((Fut.drew _).trans h1); have hgs := hg.size
   refine (HE.out _ hg).mono ?_; rintro e w' ⟨v, rfl, ho, hf⟩; exact ⟨_, rfl, hf, ho.base hgs⟩
  intro v1
  simp only [actS]
  apply Run.valG (wanted_none rfl _)
  ·intro w1 h1 hk
   have q0 := h1.cell c0; have hg := F0.out.trans ((Fut.drew _).trans h1); have hgs := hg.size
   have hcw := fun b o => Below.cell (p := ⟨b, o, none⟩) h1
   go_simp; rfl
  simp only [actS]
  apply Run.callR (wanted_none rfl _) (by intro v w w' hf hs; exact (by obtain ⟨mb, g1, g2⟩ := hs; exact ⟨mb, g1, g2.fut hf⟩)) (fun _ _ => by go_simp; exact ⟨rfl, rfl⟩)
  ·intro w1 h1 hk
   have f1 := Facts.get hk 0 rfl (by kernel_rfl)
   have q0 := h1.cell c0; have hg := F0.out.trans ((Fut.drew _).trans h1); have hgs := hg.size
   refine (HD.out _ hg).mono ?_; rintro e w' ⟨mb, rfl, ho, hf⟩; exact ⟨_, rfl, hf, mb, rfl, gri_base ho hgs⟩
  intro v3
  simp only [actS]
  apply Run.done
  intro w2 h2 hk
  obtain ⟨f1, f3, _⟩ := hk
  obtain ⟨Ae, ce, rfl, hel1, hel2⟩ := f1.rep.form
  obtain ⟨mb, rfl, hG⟩ := f3
  have FE := Lib.hid (F0.out.trans ((Fut.drew _).trans h2))
  have HOw := Lib.hid f1
  have HP2 := Lib.hid (parts_any N T w2 hG hGl'.out hT'.out)
  have HG2 := Lib.hid hG
  have hel3 : es.length ≤ 9223372036854775807 := by unfold maxLen at hel2; omega
  clear h2 f1 hG c0 HE HD hel1 hel2
  go_wp2_with fail
  refine HP2.out.mono ?_
  rintro e w3 ⟨imb, ov, rfl, hm, hms, ho, f3⟩
  have HM := Lib.hid hm
  have HMS := Lib.hid hms
  have F3 := Lib.hid (FE.out.trans f3)
  have HO3 := Lib.hid (HOw.out.fut REd.stays f3)
  have HG3 := Lib.hid (HG2.out.fut f3)
  clear hm hms ho f3 HP2 HOw HG2
  unfold blameE at hx'
  go_wp2_with fail
  go_loopw [30] (fun i wr => ∃ k : Nat, k ≤ es.length ∧ i = .int .i64 k ∧ Hid (Fut w3 wr)) (fun i _ => es.length - (intOf i).toNat)
  case atStart => exact ⟨0, Nat.zero_le _, rfl, Lib.hid (Fut.refl _)⟩
  case round =>
   obtain ⟨k, hk, rfl, hF⟩ := hrel
   by_cases hlt : k < es.length
   ·have hltI : (k : Int) < es.length := by omega
    have e0 : (0 : Int) ≤ k ∧ (k : Int) < es.length := by omega
    obtain ⟨b', off, rfl, hcs⟩ := ed_at' (HO3.out.fut REd.stays hF.out).rep hlt
    have hmem := Lib.hid (List.getElem_mem hlt)
    have hsz := HO.out _ hmem.out
    obtain ⟨y, hyk⟩ : ∃ y, es[k] = y := ⟨_, rfl⟩
    rw [hyk] at hcs hmem hsz
    clear hyk
    obtain ⟨w4, hw4⟩ : ∃ W, wr.alloc (.cells [.string y.f, .string y.t, .int .i8 y.k, .int .i64 y.r].toArray 92) = W := ⟨_, rfl⟩
    have f1 : Fut wr w4 := by rw [← hw4]; exact Fut.alloc _ _
    have hrb : w4.heap[wr.heap.size]? = some (.cells #[.string y.f, .string y.t, .int .i8 y.k, .int .i64 y.r] 92 (0, 0)) := by rw [← hw4]; exact heap_alloc_new wr _
    have q0 := cell_at hrb 0 (.string y.f) rfl
    have q1 := cell_at hrb 1 (.string y.t) rfl
    have q2 := cell_at hrb 2 (.int .i8 y.k) rfl
    have q3 := cell_at hrb 3 (.int .i64 y.r) rfl
    have hm4 := HM.out.fut (hF.out.trans f1)
    have l1 := look0 hm4 HMS.out hsz.1
    have l2 := look0 hm4 HMS.out hsz.2
    have hone : ∀ v ∈ ([.string y.f, .string y.t, .int .i8 y.k, .int .i64 y.r] : List Value), v.oneCell' = true := fun v hv => by
     simp only [List.mem_cons, List.not_mem_nil, or_false] at hv
     rcases hv with rfl | rfl | rfl | rfl <;> rfl
    have hw4h := Lib.hid hw4
    have hcs9 := Lib.hid hcs
    have FN := Lib.hid (hF.out.trans f1)
    clear hw4 f1 hrb hcs hsz hm4
    by_cases e1 : y.k = 1
    ·go_wp2_with (first | (refine wpList_rangeBox [.string y.f, .string y.t, .int .i8 y.k, .int .i64 y.r] rfl rfl rfl rfl rfl rfl rfl hcs9.out Tryz.underlying92 infoEdZ' rfl hone rfl rfl hw4h.out ?_))
     go_roundw
     case rel => exact ⟨k + 1, by omega, by go_num, FN⟩
     case measure => simp [intOf] <;> omega
    ·by_cases e2 : lk0 T.inn y.f = lk0 T.inn y.t
     ·exfalso
      have h9 := List.find?_eq_none.1 hx'.out y hmem.out
      exact h9 (by unfold Ed.strict; rw [decide_eq_false e1, decide_eq_true e2]; rfl)
     ·generalize lk0 T.inn y.f = n1 at *
      generalize lk0 T.inn y.t = n2 at *
      have e3 : ¬ (n1 : Int) = (n2 : Int) := by omega
      have e4 : ((n1 : Int) == (n2 : Int)) = false := by rw [beq_eq_false_iff_ne]; exact e3
      have e5 : ((n1 : Int) != (n2 : Int)) = true := by simp [bne, e4]
      have e6 : (n1 == n2) = false := by rw [beq_eq_false_iff_ne]; exact e2
      have e7 : (n1 != n2) = true := by simp [bne, e6]
      go_wp2_with (first | (refine wpList_rangeBox [.string y.f, .string y.t, .int .i8 y.k, .int .i64 y.r] rfl rfl rfl rfl rfl rfl rfl hcs9.out Tryz.underlying92 infoEdZ' rfl hone rfl rfl hw4h.out ?_))
      go_roundw
      case rel => exact ⟨k + 1, by omega, by go_num, FN⟩
      case measure => simp [intOf] <;> omega
   ·obtain rfl : k = es.length := by omega
    have hmm := @run_makeMap Tryz.prog
    go_wp2_with fail
    rename_i K hK
    go_step3
    have f9 := Fut.alloc wr (.map #[] 0)
    exact hK _ _ (HP.out _ _ ⟨f0, Ae, ce, mb, wr.heap.size, [], wr, Lib.hid (F3.out.trans hF.out), Lib.hid (HO3.out.fut REd.stays hF.out), Lib.hid (HG3.out.fut hF.out), Lib.hid (Nat.le_refl _), Lib.hid f9, Lib.hid (MapE.new (kv := strV) wr), Lib.hid ⟨fun x hx => (by cases hx), fun x hx => (by cases hx)⟩, hf0', _, _, _, _, _, _, _, _, _, _, _, _, _, _, _, _, _, _, _, _, _, _, _, _, _, _, _, _, _, _, _, _, _, _, _, _, _, _, _, _, _, _, _, _, _, _, _, _, _, _, _, _, _, _, _, _, _, _, _, _, _, _, _, _, _, _, _, _, _, _, _, _, _, _, _, _, _, _, _, _, _, _, _, _, _, _, _, _, _, _, _, _, _, _, _, _, _, _, _, _, _, _, _, rfl⟩)
theorem lv_at {M : Nat} {w : World} {A : Option Addr} {n cap : Nat} {xs : List (ByteArray × Nat)} (h : SlRep 2 M RLv w (.slice A n cap) xs) {k : Nat} (hk : k < xs.length) :
    ∃ b off, A = some ⟨b, off, none⟩ ∧ w.cell? ⟨b, off + k * 2, none⟩ = some (.string (xs[k]).1) ∧ w.cell? ⟨b, off + k * 2 + 1, none⟩ = some (.int .i32 ((xs[k]).2 : Nat)) := by
 obtain ⟨A1, cap1, hv, _, _, h3⟩ := h
 obtain ⟨b, off, cs, hA, hl, hc, hr⟩ := h3 k _ (List.getElem?_eq_getElem hk)
 injection hv with hv _ _
 obtain rfl : cs = _ := hr
 exact ⟨b, off, hv.trans hA, hc 0 _ rfl, hc 1 _ rfl⟩
theorem sl_tail {α : Type} {sz M : Nat} {R : World → List Value → α → Prop} {w : World} {A : Option Addr} {n cap : Nat} {x : α} {xs : List α} (h : SlRep sz M R w (.slice A n cap) (x :: xs)) :
    ∃ b off, A = some ⟨b, off, none⟩ ∧ n = xs.length + 1 ∧ SlRep sz M R w (.slice (some ⟨b, off + sz, none⟩) xs.length (cap - 1)) xs := by
 obtain ⟨A1, cap1, hv, h1, h2, h3⟩ := h
 obtain ⟨b, off, cs, hA, hl, hc, hr⟩ := h3 0 x rfl
 injection hv with e1 e2 e3
 subst e3
 rw [List.length_cons] at e2 h1
 refine ⟨b, off, e1.trans hA, e2, _, _, rfl, by omega, by omega, fun i y hy => ?_⟩
 obtain ⟨b', off', cs', hA', hl', hc', hr'⟩ := h3 (i + 1) y hy
 rw [hA] at hA'
 injection hA' with hA'
 injection hA' with e4 e5 _
 subst e4; subst e5
 refine ⟨b, off + sz, cs', rfl, hl', fun j c hj => ?_, hr'⟩
 rw [← hc' j c hj, Nat.add_mul, Nat.one_mul]
 congr 2
 omega
theorem field_prog (A : Option Addr) (n c : Nat) (W : World) : (Instr.field 31 (.agg #[.slice A n c]) 0).run Tryz.prog W = .ok (.slice A n c) W := by kernel_rfl
set_option maxHeartbeats 4000000 in
set_option maxRecDepth 100000 in
theorem lives9_any (w : World) : Calls Tryz.prog 12 #[] w fun e w' => e = .returned (.bool true) ∧ Fut w w' := by
 have HOt := Lib.hid other_any
 have HL := Lib.hid (fun A W (h : SlRep 3 2199023255552 RRu W (.slice A 2 2) otherP) => levelsG_any A 2 otherP W h (by decide) live_small 10 liveT live_tarj live_len live_blame _ 5 live_raise)
 have HP := Lib.hid (fun A W (h : SlRep 3 2199023255552 RRu W (.slice A 2 2) otherP) => partsR_any A 2 otherP W h (by decide) live_small 10 liveT live_tarj live_len live_sound live_pz _ live_parts)
 have HPl := Lib.hid (fun A c W (h : SlRep 3 2199023255552 RRu W (.slice A 1 c) [ruY]) => plain_any A c [ruY] W h (by decide) live_smallY)
 have HOn := Lib.hid (fun A W (h : SlRep 3 2199023255552 RRu W (.slice A 2 2) otherP) => one_any A 2 otherP W h (by decide) live_small)
 go_enter Tryz.func12, Tryz.ntmps12
 go_wp2_with fail
 refine (HOt.out _).mono ?_
 rintro e w1 ⟨A1, rfl, r1, f1⟩
 have R1 := Lib.hid r1
 have F1 := Lib.hid f1
 clear r1 f1
 go_wp2_with fail
 refine (HL.out A1 w1 R1.out).mono ?_
 rintro e w2 ⟨lv, rfl, hlv, f2⟩
 rw [live_levels] at hlv
 obtain ⟨Al, cl, rfl, hl1, hl2⟩ := hlv.rep.form
 have HLv := Lib.hid hlv
 have F2 := Lib.hid (F1.out.trans f2)
 clear hlv f2 R1 hl1 hl2
 go_wp2_with fail
 refine (HOt.out _).mono ?_
 rintro e w3 ⟨A3, rfl, r3, f3⟩
 have R3 := Lib.hid r3
 have HL3 := Lib.hid (HLv.out.fut RLv.stays f3)
 have F3 := Lib.hid (F2.out.trans f3)
 clear r3 f3
 go_wp2_with fail
 refine (HP.out A3 w3 R3.out).mono ?_
 rintro e w4 ⟨pv, rfl, hpv, f4⟩
 obtain ⟨Ap, cp, rfl, hp1, hp2⟩ := hpv.rep.form
 have F4 := Lib.hid (F3.out.trans f4)
 have hL4 := (HL3.out.fut RLv.stays f4).rep
 obtain ⟨bl, ol, rfl, c0, c1⟩ := lv_at hL4 (k := 0) (by decide)
 obtain ⟨bl2, ol2, hA2, c2, c3⟩ := lv_at hL4 (k := 2) (by decide)
 injection hA2 with hA2
 injection hA2 with e3 e4 _
 subst e3; subst e4
 have d0 : w4.cell? ⟨bl, ol, none⟩ = some (.string ⟨#[120]⟩) := c0
 have d1 : w4.cell? ⟨bl, ol + 1, none⟩ = some (.int .i32 0) := c1
 have d2 : w4.cell? ⟨bl, ol + 4, none⟩ = some (.string ⟨#[122]⟩) := c2
 have d3 : w4.cell? ⟨bl, ol + 5, none⟩ = some (.int .i32 1) := c3
 obtain ⟨bp, op, v0, rfl, z0, hv0⟩ := ls_at hpv.rep (k := 0) (by decide)
 obtain ⟨A0, cc0, rfl, _, _⟩ := hv0.rep.form
 obtain ⟨b0, o0, rfl, z1⟩ := nm_at hv0.rep (k := 0) (by decide)
 have d4 : w4.cell? ⟨bp, op, none⟩ = some (.slice (some ⟨b0, o0, none⟩) 1 cc0) := z0
 have d5 : w4.cell? ⟨b0, o0, none⟩ = some (.string ⟨#[120]⟩) := z1
 clear c0 c1 c2 c3 z0 z1 hv0 hpv hL4 hp1 hp2 f4 HL3 HLv R3 HL HP
 simp only [List.length_cons, List.length_nil, Nat.zero_add, Nat.reduceAdd]
 go_wp2_with fail
 refine (HOt.out _).mono ?_
 rintro e w5 ⟨A5, rfl, r5, f5⟩
 obtain ⟨b5, o5, rfl, _, r6⟩ := sl_tail r5
 have F5 := Lib.hid (F4.out.trans f5)
 have hfp := field_prog
 have R6 := Lib.hid r6
 clear r5 r6 f5 d0 d1 d2 d3 d4 d5
 go_wp2_with fail
 refine (HPl.out _ _ _ R6.out).mono ?_
 rintro e w6 ⟨rfl, f6⟩
 rw [live_plain]
 have F6 := Lib.hid (F5.out.trans f6)
 clear f6
 go_wp2_with fail
 refine (HOt.out _).mono ?_
 rintro e w7 ⟨A7, rfl, r7, f7⟩
 have F7 := Lib.hid (F6.out.trans f7)
 have R7 := Lib.hid r7
 clear r7 f7
 go_wp2_with fail
 refine (HOn.out _ _ R7.out).mono ?_
 rintro e w8 ⟨rfl, f8⟩
 rw [live_one]
 have F8 := F7.out.trans f8
 clear f8
 go_wp2
 go_ret
 exact ⟨rfl, F8⟩
end Go.Proofs.YtdjffkkbjbiihaaGreatDoor
