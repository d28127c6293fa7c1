/- Parts. -/
import Derived.ScopeJumps
import Derived.Test.YtdjffkkbjbiihaaGreatDoorE20
set_option linter.unusedSimpArgs false
set_option linter.unusedVariables false
namespace Go.Proofs.YtdjffkkbjbiihaaGreatDoor
open Go.RowKit Go.WideMaps Go.Maps
set_option maxHeartbeats 4000000 in
set_option maxRecDepth 100000 in
theorem partsR_any {M : Nat} (A : Option Addr) (c : Nat) (rs : List Ru) (w : World) (h : SlRep 3 M RRu w (.slice A rs.length c) rs) (hM : M ≤ 9223372036854775807) (hS : Small rs) (N : Nat) (T : TS) (hT : tarjT (drawP rs) N = some T) (hGl : (drawP rs).length ≤ 100000000) (hSd : SoundT T) (hpz0 : ∀ p ∈ T.out, ∀ x ∈ p, x.size ≤ 140737488351232) (L : List (List ByteArray)) (hL : partsP (drawP rs) T = some L) :
  Calls Tryz.prog 10 #[.agg #[.slice A rs.length c]] w fun e w' => ∃ v, e = .returned v ∧ OwnL 1 w.heap.size 94 (RLs (.slice none 0 0)) w' v L ∧ Fut w w' := by
 have HD := Lib.hid (fun W (hW : Fut w W) => draw_any A c rs W (h.fut RRu.stays hW) hM hS)
 obtain ⟨G, hG9⟩ : ∃ G, drawP rs = G := ⟨_, rfl⟩
 simp only [hG9] at HD hT hGl hL
 have hbx := heap_alloc_new w (.cells #[.slice A rs.length c] 31)
 have F0 := Lib.hid (Fut.alloc w (.cells #[.slice A rs.length c] 31))
 have c0 := cell_at hbx 0 (.slice A rs.length c) rfl
 have hT' := Lib.hid hT
 have hGl' := Lib.hid hGl
 have hSd' := Lib.hid hSd
 have hL' := Lib.hid hL
 obtain ⟨n, hn⟩ : ∃ n, T.out.length = n := ⟨_, rfl⟩
 have hn1 := hSd.len
 rw [hn] at hn1
 have hm1 := Lib.hid (fun W => run_makeI n hn1 W)
 have hm2 := Lib.hid (fun W => run_makeIl n hn1 W)
 have hn' := Lib.hid hn
 have HPZ := Lib.hid hpz0
 clear h hS hbx hT hGl hSd hL hG9 hn
 go_enter Tryz.func10, Tryz.ntmps10
 go_wp2_with fail
 refine (HD.out _ F0.out).mono ?_
 rintro e w1 ⟨mb, rfl, hG, f1⟩
 have HP := Lib.hid (parts_any N T w1 hG hGl'.out hT'.out)
 have HG := Lib.hid (gri_base hG F0.out.size)
 have F1 := Lib.hid (F0.out.trans f1)
 clear hG f1 HD c0
 go_wp2_with fail
 refine HP.out.mono ?_
 rintro e w2 ⟨imb, ov, rfl, hm, hms, ho, f2⟩
 obtain ⟨Ap, cp, rfl, hp1, hp2⟩ := ho.rep.form
 have HM := Lib.hid hm
 have HMS := Lib.hid hms
 have HO := Lib.hid (ho.base F1.out.size)
 have F2 := Lib.hid (F1.out.trans f2)
 have HG2 := Lib.hid (HG.out.fut f2)
 rw [hn'.out]
 clear hm hms ho f2 HP HG hp1 hp2
 have q1 := hm1.out
 have q2 := hm2.out
 obtain ⟨W3, hW3⟩ : ∃ W, W = (w2.alloc (.cells (madeCells #[.int .i64 0] n) 3)).alloc (.cells (madeCells #[.slice none 0 0] n) 98) := ⟨_, rfl⟩
 obtain ⟨hAb, f3, hz3⟩ := AbI.new w2 W3 n G T hW3
 have HAb := Lib.hid hAb
 have F3 := Lib.hid f3
 have hz2 : (w2.alloc (.cells (madeCells #[.int .i64 0] n) 3)).heap.size = w2.heap.size + 1 := by simp
 have hW3' := Lib.hid hW3
 have hn63 : n ≤ 9223372036854775807 := by omega
 clear hAb f3 hW3
 go_wp2_with fail
 rw [← hW3'.out]
 go_loopw [37] (fun i wr => ∃ k : Nat, k ≤ n ∧ i = .int .i64 k ∧ Hid (AbI wr w2.heap.size (w2.heap.size + 1) (w2.heap.size + 2) n (waitP G T k) (aboveP G T k)) ∧ Hid (Fut w2 wr)) (fun i _ => n - (intOf i).toNat)
 case atStart => exact ⟨0, Nat.zero_le _, rfl, HAb, F3⟩
 case round =>
  obtain ⟨k, hk, rfl, hI, hF⟩ := hrel
  obtain ⟨wA, rfl⟩ : ∃ x, x = wr := ⟨_, rfl⟩
  by_cases hlt : k < n
  ·have hltI : (k : Int) < n := by omega
   have e0 : (0 : Int) ≤ k ∧ (k : Int) < n := by omega
   have hltT : k < T.out.length := by rw [hn'.out]; exact hlt
   obtain ⟨b', off, pv, rfl, z0', hpv⟩ := ls_at HO.out.rep hltT
   have z0 := hF.out.cell z0'
   have hgd : T.out.getD k [] = T.out[k] := by rw [List.getD_eq_getElem?_getD, List.getElem?_eq_getElem hltT]; rfl
   have hlow : lowerP G T k = (T.out[k]).foldl (lowR G T.inn k) [] := by unfold lowerP; rw [hgd]
   have hpz : ∀ x ∈ T.out[k], x.size ≤ 140737488351232 := HPZ.out _ (List.getElem_mem hltT)
   generalize T.out[k] = part at *
   obtain ⟨Aq, cq, rfl, hq1, hq2⟩ := hpv.rep.form
   have hq3 : part.length ≤ 9223372036854775807 := by unfold maxLen at hq2; omega
   have HPV := Lib.hid hpv
   have Hlow := Lib.hid hlow
   have HPz := Lib.hid hpz
   have hmm := @run_makeMap Tryz.prog
   have f4 := Fut.alloc wA (.map #[] 0)
   have HM0 := Lib.hid (MapE.new (kv := numK) wA)
   have hI4 := Lib.hid (hI.out.fut f4)
   have hF4 := Lib.hid (hF.out.trans f4)
   have hlbB : w2.heap.size + 2 ≤ wA.heap.size := hI.out.low.2.2.2
   obtain ⟨W4, hW4⟩ : ∃ W, wA.alloc (.map #[] 0) = W := ⟨_, rfl⟩
   rw [hW4] at HM0 hI4 hF4
   have hW4' := Lib.hid hW4
   clear hpv hgd hlow hpz hq1 hq2 hI hF f4 hW4 z0'
   go_wp2_with fail
   rw [hW4'.out]
   go_loopw [45] (fun i wq => ∃ m : Nat, m ≤ part.length ∧ i = .int .i64 m ∧ Hid (MapE numK wq wA.heap.size (nsE ((part.take m).foldl (lowR G T.inn k) []))) ∧ Hid (AbI wq w2.heap.size (w2.heap.size + 1) (w2.heap.size + 2) n (waitP G T k) (aboveP G T k)) ∧ Hid (Fut w2 wq)) (fun i _ => part.length - (intOf i).toNat)
   case atStart => exact ⟨0, Nat.zero_le _, rfl, HM0, hI4, hF4⟩
   case round =>
    obtain ⟨m, hm, rfl, hMm, hIq, hFq⟩ := hrel
    obtain ⟨wq, rfl⟩ : ∃ x, x = wr := ⟨_, rfl⟩
    by_cases hlt2 : m < part.length
    ·have hltI2 : (m : Int) < part.length := by omega
     have e2 : (0 : Int) ≤ m ∧ (m : Int) < part.length := by omega
     obtain ⟨b2, off2, rfl, z2⟩ := nm_at (HPV.out.fut RNm.stays hFq.out).rep hlt2
     have hnx := Lib.hid (show (part.take (m + 1)).foldl (lowR G T.inn k) [] = (sucs G part[m]).foldl (lowS T.inn k) ((part.take m).foldl (lowR G T.inn k) []) by rw [List.take_succ_eq_append_getElem hlt2, List.foldl_append]; rfl)
     have hsz := HPz.out _ (List.getElem_mem hlt2)
     generalize part[m] = s at *
     obtain ⟨sv, hsv, hssz, hlook⟩ := (HG2.out.fut hFq.out).lookO (S := fun _ => False) hsz (fun h => h)
     have l2 := hlook _ (Only.refl _)
     generalize sucs G s = ss at *
     obtain ⟨As, cs, rfl, hs1, hs2⟩ := hsv.rep.form
     have hs3 : ss.length ≤ 9223372036854775807 := by unfold maxLen at hs2; omega
     have hSV := Lib.hid hsv
     have hSz := Lib.hid hssz
     have hacc := Lib.hid (lowAcc (G := G) (T := T) hSd'.out (hn'.out ▸ (show 0 < n by omega)) k (part.take m))
     generalize (part.take m).foldl (lowR G T.inn k) [] = acc at *
     clear hlook hsv hssz hs1 hs2 hsz
     have hMz0 := Lib.hid hMm.out
     go_wp2_with fail
     go_loopw [53] (fun i wz => ∃ j : Nat, j ≤ ss.length ∧ i = .int .i64 j ∧ Hid (MapE numK wz wA.heap.size (nsE ((ss.take j).foldl (lowS T.inn k) acc))) ∧ Hid (AbI wz w2.heap.size (w2.heap.size + 1) (w2.heap.size + 2) n (waitP G T k) (aboveP G T k)) ∧ Hid (Fut w2 wz)  ∧ Hid (Only (fun j => j = wA.heap.size) wq wz)) (fun i _ => ss.length - (intOf i).toNat)
     case atStart => exact ⟨0, Nat.zero_le _, rfl, hMm, hIq, hFq, Lib.hid (Only.refl _)⟩
     case round =>
      obtain ⟨j, hj, rfl, hMz, hIz, hFz, hOz⟩ := hrel
      obtain ⟨wz, rfl⟩ : ∃ x, x = wr := ⟨_, rfl⟩
      by_cases hlt3 : j < ss.length
      ·have hltI3 : (j : Int) < ss.length := by omega
       have e3 : (0 : Int) ≤ j ∧ (j : Int) < ss.length := by omega
       obtain ⟨b3, off3, rfl, z3'⟩ := nm_at hSV.out.rep hlt3
       have z3 := hOz.out.cell z3' (fun e => by
        obtain ⟨arr, hty⟩ := hSV.out.typed b3 rfl
        exact map_ne hMz0.out hty e.symm)
       have hnx3 := Lib.hid (show (ss.take (j + 1)).foldl (lowS T.inn k) acc = lowS T.inn k ((ss.take j).foldl (lowS T.inn k) acc) ss[j] by rw [List.take_succ_eq_append_getElem hlt3, List.foldl_append]; rfl)
       have hsz3 := hSz.out _ (List.getElem_mem hlt3)
       have hac3 := lowAccS hSd'.out (hn'.out ▸ (show 0 < n by omega)) k (ss.take j) hacc.out
       generalize ss[j] = t at *
       generalize (ss.take j).foldl (lowS T.inn k) acc = ac at *
       have l3 := look0 (HM.out.fut hFz.out) HMS.out hsz3
       have hlk := hSd'.out.lk (hn'.out ▸ (show 0 < n by omega)) t
       have hup := Lib.hid (ns_add hMz.out (fun x hx => by have := hac3 x hx; have := hSd'.out.len; omega) (p := lk0 T.inn t) (by have := hSd'.out.len; omega))
       unfold lowS at hnx3
       generalize lk0 T.inn t = q at *
       clear z3' hac3 hsz3
       by_cases hq : q = k
       ·subst hq
        rw [if_pos rfl] at hnx3
        have HX := Lib.hid (by rw [← hnx3.out] at hMz; exact hMz.out)
        go_wp2
        go_roundw
        case rel => exact ⟨j + 1, by omega, by go_num, HX, hIz, hFz, hOz⟩
        case measure => simp [intOf] <;> omega
       ·rw [if_neg hq] at hnx3
        have n3 : ¬ (q : Int) = (k : Int) := by omega
        have n4 : ((q : Int) == (k : Int)) = false := by rw [beq_eq_false_iff_ne]; exact n3
        have n5 : ((q : Int) != (k : Int)) = true := by simp [bne, n4]
        have n6 : (q == k) = false := by rw [beq_eq_false_iff_ne]; exact hq
        have n7 : (q != k) = true := by simp [bne, n6]
        obtain ⟨w5, hr5, hM5, hg5⟩ := hup.out
        have O5 : Only (fun j => j = wA.heap.size) wz w5 := Only.grown hg5 fun k hk => (Option.some.inj hk).symm
        have HX := Lib.hid (by rw [← hnx3.out] at hM5; exact hM5)
        have HI5 := Lib.hid (hIz.out.only O5 fun k arr t hk e => map_ne hMz.out hk e.symm)
        have HF5 := Lib.hid (((Only.fut hFz.out).trans (O5.mono (S' := fun j => w2.heap.size ≤ j) fun k _ e => by omega)).toFut fun k h => h)
        have HO5 := Lib.hid (hOz.out.trans O5)
        clear hM5 hg5 O5 hup
        go_wp2
        go_roundw
        case rel => exact ⟨j + 1, by omega, by go_num, HX, HI5, HF5, HO5⟩
        case measure => simp [intOf] <;> omega
      ·obtain rfl : j = ss.length := by omega
       rw [List.take_length] at hMz
       have HX := Lib.hid (by rw [← hnx.out] at hMz; exact hMz.out)
       go_wp2
       go_roundw
       case rel => exact ⟨m + 1, by omega, by go_num, HX, hIz, hFz⟩
       case measure => simp [intOf] <;> omega
    ·obtain rfl : m = part.length := by omega
     rw [List.take_length, ← Hlow.out] at hMm
     have hlq := lowerP_all (G := G) (T := T) (P := fun x => x < n) (fun t => hn'.out ▸ hSd'.out.lk (hn'.out ▸ (show 0 < n by omega)) t) k
     have hln := ns_len hMm.out 3
     have d0 := hIq.out.wait.cell hlt
     have d1 := hIq.out.wait.free k
     have hS9 := hIq.out.setWait k ((lowerP G T k).length : Nat)
     have hO9 : Only (fun j => j = w2.heap.size) wq (wq.setCell ⟨w2.heap.size, k, none⟩ (.int .i64 ((lowerP G T k).length : Nat))) := Only.set _ _ rfl
     obtain ⟨wS, hwS⟩ : ∃ x, wq.setCell ⟨w2.heap.size, k, none⟩ (.int .i64 ((lowerP G T k).length : Nat)) = x := ⟨_, rfl⟩
     rw [hwS] at hS9 hO9
     have hMS := hMm.out.kept (hO9.block wA.heap.size hMm.out.lt (by omega))
     have hFS : Fut w2 wS := ((Only.fut hFq.out).trans (hO9.mono (S' := fun j => w2.heap.size ≤ j) fun k _ e => by omega)).toFut fun k h => h
     replace hS9 := Lib.hid hS9
     replace hMS := Lib.hid hMS
     replace hFS := Lib.hid hFS
     have hwS' := Lib.hid hwS
     clear hO9 hwS hIq hFq hMm
     go_wp2_with (first | (at_range; refine wpList_rangeE _ rfl _ tNs rfl 3 101 Tryz.underlying100 wA.heap.size rfl (hwS'.out ▸ hMS.out) ?_; intro wi hrg0 fi zi))
     go_frame
     rw [hwS'.out] at hrg0 fi zi ⊢
     rw [nsE_keys] at hrg0
     have HR0 := Lib.hid hrg0
     have HA0 := Lib.hid ((hS9.out.fut fi).congr (av' := fun j => aboveP G T k j ++ if j ∈ lowerP G T k ∧ j ∉ lowerP G T k then [k] else []) (fun j _ => rfl) (fun j _ => by rw [if_neg (fun h => h.2 h.1), List.append_nil]))
     have HF0 := Lib.hid (hFS.out.trans fi)
     have hlq' := Lib.hid hlq
     have hin0 := infoIn1
     clear hrg0 fi zi hln d0 d1 hlq
     go_loopw [] (fun wr => ∃ left : List Nat, Hid (RngE numK wr wA.heap.size wS.heap.size (nsE (lowerP G T k)) left) ∧ Hid (AbI wr w2.heap.size (w2.heap.size + 1) (w2.heap.size + 2) n (fun j => if j = k then ((lowerP G T k).length : Nat) else waitP G T k j) (fun j => aboveP G T k j ++ if j ∈ lowerP G T k ∧ j ∉ left then [k] else [])) ∧ Hid (Fut w2 wr) ∧ Hid (∀ x ∈ left, x ∈ lowerP G T k)) (fun wr => wr.rangeLeft wA.heap.size wS.heap.size)
     case atStart => exact ⟨_, HR0, HA0, HF0, Lib.hid fun x hx => hx⟩
     case round =>
      obtain ⟨left, hR, hA, hFr, hsub⟩ := hrel
      obtain ⟨wz, rfl⟩ : ∃ x, x = wr := ⟨_, rfl⟩
      have hRo := hR.out
      go_wp2_with (first | (at_next; refine wpList_nextE _ rfl _ rfl wA.heap.size wS.heap.size rfl hRo numK_inj ?done ?more))
      case done =>
       intro h0
       subst h0
       have hA9 := Lib.hid (hA.out.congr (wt' := waitP G T (k + 1)) (av' := aboveP G T (k + 1)) (fun j hj => by
        unfold waitP
        by_cases e : j = k
        ·subst e; rw [if_pos rfl, if_pos (by omega)]
        ·rw [if_neg e]
         by_cases e9 : j < k
         ·rw [if_pos e9, if_pos (by omega)]
         ·rw [if_neg e9, if_neg (by omega)]) (fun j _ => by
        rw [aboveP_succ]
        by_cases e : j ∈ lowerP G T k <;> simp [e]))
       clear hA hR hRo hsub
       go_wp2
       go_roundw
       case rel => exact ⟨k + 1, by omega, by go_num, hA9, hFr⟩
       case measure => simp [intOf] <;> omega
      case more =>
       intro x v wn hx hxl hRn hgn hzn hen
       have hxn := hlq'.out x (hsub.out x hx)
       have On : Only (fun j => j = wS.heap.size) wz wn := Only.grown hgn fun k hk => (Option.some.inj hk).symm
       have hA1 := hA.out.only On fun k' arr t hk e => iter_ne hRo hk e
       have hFn : Fut w2 wn := ((Only.fut hFr.out).trans (On.mono (S' := fun j => w2.heap.size ≤ j) fun k _ e => by
        have := HF0.out.size; have := hFS.out.size; omega)).toFut fun k h => h
       have hav : aboveP G T k x ++ (if x ∈ lowerP G T k ∧ x ∉ left then [k] else []) = aboveP G T k x := by rw [if_neg (fun h => h.2 hx), List.append_nil]
       obtain ⟨v9, h9, hown, _⟩ := hA1.pushAbove hxn
       have fa := Fut.alloc wn (.cells #[.int .i64 (k : Nat)] 3)
       obtain ⟨v8, h8, _, hpush⟩ := (hA1.fut fa).pushAbove hxn
       obtain rfl : v9 = v8 := by
        have := fa.cell h9
        rw [h8] at this
        exact (Option.some.inj this).symm
       simp only [hav] at hown hpush
       have hal : (aboveP G T k x).length ≤ 100000000 := by
        unfold aboveP
        have := List.length_filter_le (fun k => decide (x ∈ lowerP G T k)) (List.range k)
        rw [List.length_range] at this
        omega
       have hcnt := Lib.hid (show ((left.filter (fun y => !decide (y = x))).length < left.length) from List.length_filter_lt_length_iff_exists.2 ⟨x, hx, by simp⟩)
       have hRl := Lib.hid hRo.cnt
       have hnxA : ∀ j, (if j = x then aboveP G T k x ++ [k] else aboveP G T k j ++ (if j ∈ lowerP G T k ∧ j ∉ left then [k] else [])) = aboveP G T k j ++ (if j ∈ lowerP G T k ∧ j ∉ left.filter (fun y => !decide (y = x)) then [k] else []) := fun j => by
        by_cases e : j = x
        ·subst e
         rw [if_pos rfl, if_pos ⟨hsub.out j hx, by simp⟩]
        ·rw [if_neg e]
         have : j ∈ left.filter (fun y => !decide (y = x)) ↔ j ∈ left := by simp [List.mem_filter, e]
         simp only [this]
       have hsub' := Lib.hid (show ∀ y ∈ left.filter (fun y => !decide (y = x)), y ∈ lowerP G T k from fun y hy => hsub.out y (List.mem_filter.1 hy).1)
       obtain ⟨Ao, co, rfl, _, _⟩ := hown.rep.form
       have hownh := Lib.hid hown
       have hpushh := Lib.hid hpush
       have hRnh := Lib.hid (hRn.fut fa)
       have hFnh := Lib.hid (hFn.trans fa)
       have hxI : (x : Int) < n := by omega
       have ex : (0 : Int) ≤ x ∧ (x : Int) < n := by omega
       have hbs : w2.heap.size + 2 ≤ wn.heap.size := hA1.low.2.2.2
       have hlab : w2.heap.size + 1 < w2.heap.size + 2 := Nat.lt_succ_self _
       have hnxh := Lib.hid hnxA
       generalize aboveP G T k x = ax at *
       unfold numK at hen
       clear hzn hA hR hRo hsub hRn hown hpush hnxA hgn On hA1 hFn hav hx h8 hxl
       go_wp2_with (first | (at_builtin; go_loud (refine wpList_append_LB (R := RIn) (B := w2.heap.size + 2) (M := 1) (xs := ax) (ys := [k]) (e := 3) (by go_simp) _ _ 98 rfl Tryz.underlying98 (.int .i64 0) 8 infoIn1 rfl (by decide) RIn.one RIn.keeps rfl rfl (hownh.out.fut RIn.stays fa) (inOne _ k _) ?l3 ?l4 ?b3 ?k3)))
       case l3 => simp [maxLen]; omega
       case l4 => simp; omega
       case b3 => simp; omega
       case k3 =>
       intro v' w' o' g' sn'
       obtain ⟨c0, c1, hA3, hO3, hR3⟩ := hpushh.out w' v' k o' g' sn'
       obtain ⟨A8, c8, rfl, _, _⟩ := o'.rep.form
       obtain ⟨w5, hw5⟩ : ∃ W, w'.setCell ⟨w2.heap.size + 1, x, none⟩ (.slice A8 (ax ++ [k]).length c8) = W := ⟨_, rfl⟩
       rw [hw5] at hA3 hO3 hR3
       have HA5 := Lib.hid (hA3.congr (fun j _ => rfl) (fun j _ => hnxh.out j))
       have HR5 := Lib.hid (hR3 _ _ _ _ hRnh.out)
       have HF5 := Lib.hid (show Fut w2 w5 from ((Only.fut hFnh.out).trans (hO3.mono (S' := fun j => w2.heap.size ≤ j) fun k _ e => by omega)).toFut fun k h => h)
       have hi3 := infoIl
       rw [List.length_append, List.length_singleton] at hw5
       have hw5' := Lib.hid hw5
       clear hA3 hO3 hR3 o' g' sn' hw5 hpushh hownh
       go_wp2_with (first | (refine wpList_store_1 (wanted_none rfl _) _ _ rfl rfl rfl hi3 rfl c0 c1 hw5'.out ?_))
       rw [hw5'.out]
       clear c0 c1
       go_wp2
       go_roundw
       case rel => exact ⟨_, HR5, HA5, HF5, hsub'⟩
       case measure => rw [HR5.out.cnt, hRl.out]; exact hcnt.out
  ·obtain rfl : n = k := by omega
   obtain ⟨l0, hl0, rfl⟩ : ∃ l0, ordP G T n (waitP G T n) = some l0 ∧ L = l0.map fun a => T.out.getD a [] := by
    have h9 := hL'.out
    unfold partsP at h9
    rw [hn'.out] at h9
    cases q : ordP G T n (waitP G T n) with
    | none => rw [q] at h9; cases h9
    | some l => rw [q] at h9; exact ⟨l, rfl, (Option.some.inj h9).symm⟩
   have HO0 := Lib.hid (show ordP G T (n - 0) (waitP G T n) = some l0 from hl0)
   clear hl0 hL' q1 q2 HAb F3 hW3' hm1 hm2 HG2 HM HMS hlt hk
   go_wp2_with fail
   go_loopw [16, 93] (fun u i wr => ∃ (q : Nat) (wt : Nat → Int) (dn rest : List Nat), q ≤ n ∧ i = .int .i64 q ∧ Hid (ordP G T (n - q) wt = some rest) ∧ Hid (dn ++ rest = l0) ∧ Hid (dn.length = q) ∧ Hid (AbI wr w2.heap.size (w2.heap.size + 1) (w2.heap.size + 2) n wt (aboveP G T n)) ∧ Hid (OwnL 1 (w2.heap.size + 2) 94 (RLs (.slice none 0 0)) wr u (dn.map fun a => T.out.getD a [])) ∧ Hid (Fut w2 wr)) (fun _ i _ => n - (intOf i).toNat)
   case atStart => exact ⟨0, _, [], l0, Nat.zero_le _, rfl, HO0, Lib.hid rfl, Lib.hid rfl, hI, Lib.hid OwnL.nil, hF⟩
   case round =>
    obtain ⟨q, wt, dn, rest, hq, rfl, hor, hdr, hdl, hA, hOu, hFr⟩ := hrel
    obtain ⟨wA, rfl⟩ : ∃ x, x = wr := ⟨_, rfl⟩
    by_cases hlq : q < n
    ·have hlqI : (q : Int) < n := by omega
     have e1 : (0 : Int) ≤ q ∧ (q : Int) < n := by omega
     obtain ⟨m, hm9⟩ : ∃ m, n - q = m + 1 := ⟨n - q - 1, by omega⟩
     have hor' := hor.out
     rw [hm9] at hor'
     unfold ordP at hor'
     rw [hn'.out] at hor'
     obtain ⟨a, hpa, rest', hre, rfl⟩ : ∃ a, pickP T wt n = some a ∧ ∃ rest', ordP G T m (layP G T wt a) = some rest' ∧ rest = a :: rest' := by
      cases hp : pickP T wt n with
      | none => rw [hp] at hor'; cases hor'
      | some a =>
       rw [hp] at hor'
       dsimp only at hor'
       cases hr : ordP G T m (layP G T wt a) with
       | none => rw [hr] at hor'; cases hor'
       | some r => rw [hr] at hor'; exact ⟨a, rfl, r, hr, (Option.some.inj hor').symm⟩
     have han := pickP_lt hpa
     have hpa' := Lib.hid hpa
     have hre' := Lib.hid hre
     have hm9' := Lib.hid hm9
     clear hor hor' hpa hre hm9
     go_wp2_with fail
     go_loopw [17, 97] (fun x i wz => ∃ j : Nat, j ≤ n ∧ i = .int .i64 j ∧ x = pkV (pickP T wt j) ∧ Hid (Fut wA wz)) (fun _ i _ => n - (intOf i).toNat)
     case atStart => exact ⟨0, Nat.zero_le _, rfl, rfl, Lib.hid (Fut.refl _)⟩
     case round =>
      obtain ⟨j, hj, rfl, hx, hFz⟩ := hrel
      obtain ⟨wz, rfl⟩ : ∃ x, x = wr := ⟨_, rfl⟩
      by_cases hlj : j < n
      ·have hljI : (j : Int) < n := by omega
       have e2 : (0 : Int) ≤ j ∧ (j : Int) < n := by omega
       have y0 := hFz.out.cell (hA.out.wait.cell hlj)
       have hx9 : pickP T wt (j + 1) = if wt j = 0 ∧ betterP T j (pickP T wt j) = true then some j else pickP T wt j := rfl
       obtain ⟨wj, hwj⟩ : ∃ x, wt j = x := ⟨_, rfl⟩
       rw [hwj] at y0 hx9
       replace hwj := Lib.hid hwj
       by_cases hw0 : wj = 0
       ·subst hw0
        cases hpj : pickP T wt j with
        | none =>
         rw [hpj] at hx hx9
         have hx9' := Lib.hid (hx9.trans (if_pos ⟨rfl, rfl⟩))
         unfold pkV at hx
         dsimp only at hx
         subst hx
         clear hx9
         go_wp2
         refine wp_graph 21 [.d, .d, .d, .d, .d, .d, .d, .d, .d, .d, .d, .d, .d, .d, .d, .d, .d, .d, .d, .d, .d] (by kernel_rfl) (by kernel_rfl) (by kernel_rfl) ?_
         simp only [takS, Exs]
         iterate 21 apply Exists.intro
         apply Run.valG (wanted_none rfl _)
         ·intro w1 h1 hk
          have hcw := fun b o => Below.cell (p := ⟨b, o, none⟩) h1
          go_simp; rfl
         simp only [actS]
         apply Run.valG (wanted_none rfl _)
         ·intro w1 h1 hk
          have hcw := fun b o => Below.cell (p := ⟨b, o, none⟩) h1
          go_simp; rfl
         simp only [actS]
         apply Run.valG (wanted_none rfl _)
         ·intro w1 h1 hk
          have hcw := fun b o => Below.cell (p := ⟨b, o, none⟩) h1
          go_simp; rfl
         simp only [actS]
         apply Run.valG (by go_simp)
         ·intro w1 h1 hk
          have hcw := fun b o => Below.cell (p := ⟨b, o, none⟩) h1
          go_simp; rfl
         simp only [actS]
         apply Run.valG (by go_simp)
         ·intro w1 h1 hk
          have hcw := fun b o => Below.cell (p := ⟨b, o, none⟩) h1
          go_simp; rfl
         simp only [actS]
         apply Run.valG (by go_simp)
         ·intro w1 h1 hk
          have hcw := fun b o => Below.cell (p := ⟨b, o, none⟩) h1
          go_simp; rfl
         simp only [actS]
         apply Run.skip (by first | (go_simp; done) | (go_simp; exact fun h => nomatch h))
         simp only [actS]
         apply Run.skip (by first | (go_simp; done) | (go_simp; exact fun h => nomatch h))
         simp only [actS]
         apply Run.skip (by first | (go_simp; done) | (go_simp; exact fun h => nomatch h))
         simp only [actS]
         apply Run.skip (by first | (go_simp; done) | (go_simp; exact fun h => nomatch h))
         simp only [actS]
         apply Run.skip (by first | (go_simp; done) | (go_simp; exact fun h => nomatch h))
         simp only [actS]
         apply Run.skip (by first | (go_simp; done) | (go_simp; exact fun h => nomatch h))
         simp only [actS]
         apply Run.skip (by first | (go_simp; done) | (go_simp; exact fun h => nomatch h))
         simp only [actS]
         apply Run.skip (by first | (go_simp; done) | (go_simp; exact fun h => nomatch h))
         simp only [actS]
         apply Run.skip (by first | (go_simp; done) | (go_simp; exact fun h => nomatch h))
         simp only [actS]
         apply Run.skip (by first | (go_simp; done) | (go_simp; exact fun h => nomatch h))
         simp only [actS]
         apply Run.skip (by first | (go_simp; done) | (go_simp; exact fun h => nomatch h))
         simp only [actS]
         apply Run.skip (by first | (go_simp; done) | (go_simp; exact fun h => nomatch h))
         simp only [actS]
         apply Run.skip (by first | (go_simp; done) | (go_simp; exact fun h => nomatch h))
         simp only [actS]
         apply Run.valG (by go_simp)
         ·intro w1 h1 hk
          have hcw := fun b o => Below.cell (p := ⟨b, o, none⟩) h1
          go_simp; rfl
         simp only [actS]
         apply Run.valG (wanted_none rfl _)
         ·intro w1 h1 hk
          have hcw := fun b o => Below.cell (p := ⟨b, o, none⟩) h1
          go_simp; rfl
         simp only [actS]
         apply Run.done
         intro w2 h2 hk
         clear hk
         have F9 := Lib.hid (hFz.out.trans ((Fut.drew _).trans h2))
         clear h2
         go_wp2
         go_roundw
         case rel => exact ⟨j + 1, by omega, by go_num, by rw [hx9'.out]; rfl, F9⟩
         case measure => simp [intOf] <;> omega
        | some b =>
         have hbn : b < n := by have := pickP_lt hpj; omega
         rw [hpj] at hx hx9
         unfold pkV at hx
         dsimp only at hx
         subst hx
         have hjT : j < T.out.length := by rw [hn'.out]; exact hlj
         have hbT : b < T.out.length := by rw [hn'.out]; exact hbn
         obtain ⟨bj, oj, vj, hej, zj, hvj⟩ := ls_at HO.out.rep hjT
         obtain ⟨bb, ob, vb, heb, zb, hvb⟩ := ls_at HO.out.rep hbT
         obtain ⟨gj, pj, cj, rfl, xj⟩ := headN_at hvj (hSd'.out.ne _ (List.getElem_mem hjT))
         obtain ⟨gb, pb, cb, rfl, xb⟩ := headN_at hvb (hSd'.out.ne _ (List.getElem_mem hbT))
         have hlj0 : 0 < (T.out[j]).length := List.length_pos_iff.2 (hSd'.out.ne _ (List.getElem_mem hjT))
         have hlb0 : 0 < (T.out[b]).length := List.length_pos_iff.2 (hSd'.out.ne _ (List.getElem_mem hbT))
         rw [← headP_at hjT] at xj
         rw [← headP_at hbT] at xb
         generalize (T.out[j]).length = lj at *
         generalize (T.out[b]).length = lb at *
         subst hej
         injection heb with heb
         injection heb with he1 he2 _
         subst he1; subst he2
         have FW := hFr.out.trans hFz.out
         have zj1 := FW.cell zj
         have zb1 := FW.cell zb
         have xj1 := FW.cell xj
         have xb1 := FW.cell xb
         have hljI0 : (0 : Int) < lj := by omega
         have hlbI0 : (0 : Int) < lb := by omega
         have hbnI : (b : Int) < n := by omega
         have eb2 : (0 : Int) ≤ b ∧ (b : Int) < n := by omega
         have hbneg : ¬ (b : Int) < 0 := by omega
         have hless := less_cmpS (headP T j) (headP T b)
         clear zj zb xj xb hvj hvb FW
         by_cases hc : cmpS (headP T j) (headP T b) < 0
         ·rw [decide_eq_true hc] at hless
          have hx9' := Lib.hid (hx9.trans (if_pos ⟨rfl, decide_eq_true hc⟩))
          generalize headP T j = sj at *
          generalize headP T b = sb at *
          clear hx9 hc
          go_wp2
          refine wp_graph 21 [.d, .d, .d, .d, .d, .d, .d, .d, .d, .d, .d, .d, .d, .d, .d, .d, .d, .d, .d, .d, .d] (by kernel_rfl) (by kernel_rfl) (by kernel_rfl) ?_
          simp only [takS, Exs]
          iterate 21 apply Exists.intro
          apply Run.valG (wanted_none rfl _)
          ·intro w1 h1 hk
           have r1 := h1.cell zj1; have r2 := h1.cell zb1; have r3 := h1.cell xj1; have r4 := h1.cell xb1
           have hcw := fun b o => Below.cell (p := ⟨b, o, none⟩) h1
           go_simp; rfl
          simp only [actS]
          apply Run.valG (wanted_none rfl _)
          ·intro w1 h1 hk
           have r1 := h1.cell zj1; have r2 := h1.cell zb1; have r3 := h1.cell xj1; have r4 := h1.cell xb1
           have hcw := fun b o => Below.cell (p := ⟨b, o, none⟩) h1
           go_simp; rfl
          simp only [actS]
          apply Run.valG (wanted_none rfl _)
          ·intro w1 h1 hk
           have r1 := h1.cell zj1; have r2 := h1.cell zb1; have r3 := h1.cell xj1; have r4 := h1.cell xb1
           have hcw := fun b o => Below.cell (p := ⟨b, o, none⟩) h1
           go_simp; rfl
          simp only [actS]
          apply Run.valG (by go_simp)
          ·intro w1 h1 hk
           have r1 := h1.cell zj1; have r2 := h1.cell zb1; have r3 := h1.cell xj1; have r4 := h1.cell xb1
           have hcw := fun b o => Below.cell (p := ⟨b, o, none⟩) h1
           go_simp; rfl
          simp only [actS]
          apply Run.valG (by go_simp)
          ·intro w1 h1 hk
           have r1 := h1.cell zj1; have r2 := h1.cell zb1; have r3 := h1.cell xj1; have r4 := h1.cell xb1
           have hcw := fun b o => Below.cell (p := ⟨b, o, none⟩) h1
           go_simp; rfl
          simp only [actS]
          apply Run.valG (by go_simp)
          ·intro w1 h1 hk
           have r1 := h1.cell zj1; have r2 := h1.cell zb1; have r3 := h1.cell xj1; have r4 := h1.cell xb1
           have hcw := fun b o => Below.cell (p := ⟨b, o, none⟩) h1
           go_simp; rfl
          simp only [actS]
          apply Run.valG (by go_simp)
          ·intro w1 h1 hk
           have r1 := h1.cell zj1; have r2 := h1.cell zb1; have r3 := h1.cell xj1; have r4 := h1.cell xb1
           have hcw := fun b o => Below.cell (p := ⟨b, o, none⟩) h1
           go_simp; rfl
          simp only [actS]
          apply Run.valG (by go_simp)
          ·intro w1 h1 hk
           have r1 := h1.cell zj1; have r2 := h1.cell zb1; have r3 := h1.cell xj1; have r4 := h1.cell xb1
           have hcw := fun b o => Below.cell (p := ⟨b, o, none⟩) h1
           go_simp; rfl
          simp only [actS]
          apply Run.valG (by go_simp)
          ·intro w1 h1 hk
           have r1 := h1.cell zj1; have r2 := h1.cell zb1; have r3 := h1.cell xj1; have r4 := h1.cell xb1
           have hcw := fun b o => Below.cell (p := ⟨b, o, none⟩) h1
           go_simp; rfl
          simp only [actS]
          apply Run.valG (by go_simp)
          ·intro w1 h1 hk
           have r1 := h1.cell zj1; have r2 := h1.cell zb1; have r3 := h1.cell xj1; have r4 := h1.cell xb1
           have hcw := fun b o => Below.cell (p := ⟨b, o, none⟩) h1
           go_simp; rfl
          simp only [actS]
          apply Run.valG (by go_simp)
          ·intro w1 h1 hk
           have r1 := h1.cell zj1; have r2 := h1.cell zb1; have r3 := h1.cell xj1; have r4 := h1.cell xb1
           have hcw := fun b o => Below.cell (p := ⟨b, o, none⟩) h1
           go_simp; rfl
          simp only [actS]
          apply Run.valG (by go_simp)
          ·intro w1 h1 hk
           have r1 := h1.cell zj1; have r2 := h1.cell zb1; have r3 := h1.cell xj1; have r4 := h1.cell xb1
           have hcw := fun b o => Below.cell (p := ⟨b, o, none⟩) h1
           go_simp; rfl
          simp only [actS]
          apply Run.valG (by go_simp)
          ·intro w1 h1 hk
           have r1 := h1.cell zj1; have r2 := h1.cell zb1; have r3 := h1.cell xj1; have r4 := h1.cell xb1
           have hcw := fun b o => Below.cell (p := ⟨b, o, none⟩) h1
           go_simp; rfl
          simp only [actS]
          apply Run.valG (by go_simp)
          ·intro w1 h1 hk
           have r1 := h1.cell zj1; have r2 := h1.cell zb1; have r3 := h1.cell xj1; have r4 := h1.cell xb1
           have hcw := fun b o => Below.cell (p := ⟨b, o, none⟩) h1
           go_simp; rfl
          simp only [actS]
          apply Run.valG (by go_simp)
          ·intro w1 h1 hk
           have r1 := h1.cell zj1; have r2 := h1.cell zb1; have r3 := h1.cell xj1; have r4 := h1.cell xb1
           have hcw := fun b o => Below.cell (p := ⟨b, o, none⟩) h1
           go_simp; rfl
          simp only [actS]
          apply Run.valG (by go_simp)
          ·intro w1 h1 hk
           have r1 := h1.cell zj1; have r2 := h1.cell zb1; have r3 := h1.cell xj1; have r4 := h1.cell xb1
           have hcw := fun b o => Below.cell (p := ⟨b, o, none⟩) h1
           go_simp; rfl
          simp only [actS]
          apply Run.valG (by go_simp)
          ·intro w1 h1 hk
           have r1 := h1.cell zj1; have r2 := h1.cell zb1; have r3 := h1.cell xj1; have r4 := h1.cell xb1
           have hcw := fun b o => Below.cell (p := ⟨b, o, none⟩) h1
           go_simp; rfl
          simp only [actS]
          apply Run.valG (by go_simp)
          ·intro w1 h1 hk
           have r1 := h1.cell zj1; have r2 := h1.cell zb1; have r3 := h1.cell xj1; have r4 := h1.cell xb1
           have hcw := fun b o => Below.cell (p := ⟨b, o, none⟩) h1
           go_simp; rfl
          simp only [actS]
          apply Run.valG (by go_simp)
          ·intro w1 h1 hk
           have r1 := h1.cell zj1; have r2 := h1.cell zb1; have r3 := h1.cell xj1; have r4 := h1.cell xb1
           have hcw := fun b o => Below.cell (p := ⟨b, o, none⟩) h1
           go_simp; rfl
          simp only [actS]
          apply Run.valG (by go_simp)
          ·intro w1 h1 hk
           have r1 := h1.cell zj1; have r2 := h1.cell zb1; have r3 := h1.cell xj1; have r4 := h1.cell xb1
           have hcw := fun b o => Below.cell (p := ⟨b, o, none⟩) h1
           go_simp; rfl
          simp only [actS]
          apply Run.valG (wanted_none rfl _)
          ·intro w1 h1 hk
           have r1 := h1.cell zj1; have r2 := h1.cell zb1; have r3 := h1.cell xj1; have r4 := h1.cell xb1
           have hcw := fun b o => Below.cell (p := ⟨b, o, none⟩) h1
           go_simp; rfl
          simp only [actS]
          apply Run.done
          intro w2 h2 hk
          clear hk
          have F9 := Lib.hid (hFz.out.trans ((Fut.drew _).trans h2))
          clear h2
          go_wp2
          go_roundw
          case rel => exact ⟨j + 1, by omega, by go_num, by rw [hx9'.out]; rfl, F9⟩
          case measure => simp [intOf] <;> omega
         ·rw [decide_eq_false hc] at hless
          have hx9' := Lib.hid (hx9.trans (if_neg (fun h => hc (of_decide_eq_true h.2))))
          generalize headP T j = sj at *
          generalize headP T b = sb at *
          clear hx9 hc
          go_wp2
          refine wp_graph 21 [.d, .d, .d, .d, .d, .d, .d, .d, .d, .d, .d, .d, .d, .d, .d, .d, .d, .d, .d, .d, .d] (by kernel_rfl) (by kernel_rfl) (by kernel_rfl) ?_
          simp only [takS, Exs]
          iterate 21 apply Exists.intro
          apply Run.valG (wanted_none rfl _)
          ·intro w1 h1 hk
           have r1 := h1.cell zj1; have r2 := h1.cell zb1; have r3 := h1.cell xj1; have r4 := h1.cell xb1
           have hcw := fun b o => Below.cell (p := ⟨b, o, none⟩) h1
           go_simp; rfl
          simp only [actS]
          apply Run.valG (wanted_none rfl _)
          ·intro w1 h1 hk
           have r1 := h1.cell zj1; have r2 := h1.cell zb1; have r3 := h1.cell xj1; have r4 := h1.cell xb1
           have hcw := fun b o => Below.cell (p := ⟨b, o, none⟩) h1
           go_simp; rfl
          simp only [actS]
          apply Run.valG (wanted_none rfl _)
          ·intro w1 h1 hk
           have r1 := h1.cell zj1; have r2 := h1.cell zb1; have r3 := h1.cell xj1; have r4 := h1.cell xb1
           have hcw := fun b o => Below.cell (p := ⟨b, o, none⟩) h1
           go_simp; rfl
          simp only [actS]
          apply Run.valG (by go_simp)
          ·intro w1 h1 hk
           have r1 := h1.cell zj1; have r2 := h1.cell zb1; have r3 := h1.cell xj1; have r4 := h1.cell xb1
           have hcw := fun b o => Below.cell (p := ⟨b, o, none⟩) h1
           go_simp; rfl
          simp only [actS]
          apply Run.valG (by go_simp)
          ·intro w1 h1 hk
           have r1 := h1.cell zj1; have r2 := h1.cell zb1; have r3 := h1.cell xj1; have r4 := h1.cell xb1
           have hcw := fun b o => Below.cell (p := ⟨b, o, none⟩) h1
           go_simp; rfl
          simp only [actS]
          apply Run.valG (by go_simp)
          ·intro w1 h1 hk
           have r1 := h1.cell zj1; have r2 := h1.cell zb1; have r3 := h1.cell xj1; have r4 := h1.cell xb1
           have hcw := fun b o => Below.cell (p := ⟨b, o, none⟩) h1
           go_simp; rfl
          simp only [actS]
          apply Run.valG (by go_simp)
          ·intro w1 h1 hk
           have r1 := h1.cell zj1; have r2 := h1.cell zb1; have r3 := h1.cell xj1; have r4 := h1.cell xb1
           have hcw := fun b o => Below.cell (p := ⟨b, o, none⟩) h1
           go_simp; rfl
          simp only [actS]
          apply Run.valG (by go_simp)
          ·intro w1 h1 hk
           have r1 := h1.cell zj1; have r2 := h1.cell zb1; have r3 := h1.cell xj1; have r4 := h1.cell xb1
           have hcw := fun b o => Below.cell (p := ⟨b, o, none⟩) h1
           go_simp; rfl
          simp only [actS]
          apply Run.valG (by go_simp)
          ·intro w1 h1 hk
           have r1 := h1.cell zj1; have r2 := h1.cell zb1; have r3 := h1.cell xj1; have r4 := h1.cell xb1
           have hcw := fun b o => Below.cell (p := ⟨b, o, none⟩) h1
           go_simp; rfl
          simp only [actS]
          apply Run.valG (by go_simp)
          ·intro w1 h1 hk
           have r1 := h1.cell zj1; have r2 := h1.cell zb1; have r3 := h1.cell xj1; have r4 := h1.cell xb1
           have hcw := fun b o => Below.cell (p := ⟨b, o, none⟩) h1
           go_simp; rfl
          simp only [actS]
          apply Run.valG (by go_simp)
          ·intro w1 h1 hk
           have r1 := h1.cell zj1; have r2 := h1.cell zb1; have r3 := h1.cell xj1; have r4 := h1.cell xb1
           have hcw := fun b o => Below.cell (p := ⟨b, o, none⟩) h1
           go_simp; rfl
          simp only [actS]
          apply Run.valG (by go_simp)
          ·intro w1 h1 hk
           have r1 := h1.cell zj1; have r2 := h1.cell zb1; have r3 := h1.cell xj1; have r4 := h1.cell xb1
           have hcw := fun b o => Below.cell (p := ⟨b, o, none⟩) h1
           go_simp; rfl
          simp only [actS]
          apply Run.valG (by go_simp)
          ·intro w1 h1 hk
           have r1 := h1.cell zj1; have r2 := h1.cell zb1; have r3 := h1.cell xj1; have r4 := h1.cell xb1
           have hcw := fun b o => Below.cell (p := ⟨b, o, none⟩) h1
           go_simp; rfl
          simp only [actS]
          apply Run.valG (by go_simp)
          ·intro w1 h1 hk
           have r1 := h1.cell zj1; have r2 := h1.cell zb1; have r3 := h1.cell xj1; have r4 := h1.cell xb1
           have hcw := fun b o => Below.cell (p := ⟨b, o, none⟩) h1
           go_simp; rfl
          simp only [actS]
          apply Run.valG (by go_simp)
          ·intro w1 h1 hk
           have r1 := h1.cell zj1; have r2 := h1.cell zb1; have r3 := h1.cell xj1; have r4 := h1.cell xb1
           have hcw := fun b o => Below.cell (p := ⟨b, o, none⟩) h1
           go_simp; rfl
          simp only [actS]
          apply Run.valG (by go_simp)
          ·intro w1 h1 hk
           have r1 := h1.cell zj1; have r2 := h1.cell zb1; have r3 := h1.cell xj1; have r4 := h1.cell xb1
           have hcw := fun b o => Below.cell (p := ⟨b, o, none⟩) h1
           go_simp; rfl
          simp only [actS]
          apply Run.valG (by go_simp)
          ·intro w1 h1 hk
           have r1 := h1.cell zj1; have r2 := h1.cell zb1; have r3 := h1.cell xj1; have r4 := h1.cell xb1
           have hcw := fun b o => Below.cell (p := ⟨b, o, none⟩) h1
           go_simp; rfl
          simp only [actS]
          apply Run.valG (by go_simp)
          ·intro w1 h1 hk
           have r1 := h1.cell zj1; have r2 := h1.cell zb1; have r3 := h1.cell xj1; have r4 := h1.cell xb1
           have hcw := fun b o => Below.cell (p := ⟨b, o, none⟩) h1
           go_simp; rfl
          simp only [actS]
          apply Run.valG (by go_simp)
          ·intro w1 h1 hk
           have r1 := h1.cell zj1; have r2 := h1.cell zb1; have r3 := h1.cell xj1; have r4 := h1.cell xb1
           have hcw := fun b o => Below.cell (p := ⟨b, o, none⟩) h1
           go_simp; rfl
          simp only [actS]
          apply Run.valG (by go_simp)
          ·intro w1 h1 hk
           have r1 := h1.cell zj1; have r2 := h1.cell zb1; have r3 := h1.cell xj1; have r4 := h1.cell xb1
           have hcw := fun b o => Below.cell (p := ⟨b, o, none⟩) h1
           go_simp; rfl
          simp only [actS]
          apply Run.valG (wanted_none rfl _)
          ·intro w1 h1 hk
           have r1 := h1.cell zj1; have r2 := h1.cell zb1; have r3 := h1.cell xj1; have r4 := h1.cell xb1
           have hcw := fun b o => Below.cell (p := ⟨b, o, none⟩) h1
           go_simp; rfl
          simp only [actS]
          apply Run.done
          intro w2 h2 hk
          clear hk
          have F9 := Lib.hid (hFz.out.trans ((Fut.drew _).trans h2))
          clear h2
          go_wp2
          go_roundw
          case rel => exact ⟨j + 1, by omega, by go_num, by rw [hx9'.out]; rfl, F9⟩
          case measure => simp [intOf] <;> omega
       ·have w1 : (wj == 0) = false := by rw [beq_eq_false_iff_ne]; exact hw0
        have hx9' := Lib.hid (hx9.trans (if_neg (fun h => hw0 h.1)))
        clear hx9
        go_wp2
        refine wp_graph 21 [.d, .d, .d, .d, .d, .d, .d, .d, .d, .d, .d, .d, .d, .d, .d, .d, .d, .d, .d, .d, .d] (by kernel_rfl) (by kernel_rfl) (by kernel_rfl) ?_
        simp only [takS, Exs]
        iterate 21 apply Exists.intro
        apply Run.valG (wanted_none rfl _)
        ·intro w1 h1 hk
         have hcw := fun b o => Below.cell (p := ⟨b, o, none⟩) h1
         go_simp; rfl
        simp only [actS]
        apply Run.valG (wanted_none rfl _)
        ·intro w1 h1 hk
         have hcw := fun b o => Below.cell (p := ⟨b, o, none⟩) h1
         go_simp; rfl
        simp only [actS]
        apply Run.valG (wanted_none rfl _)
        ·intro w1 h1 hk
         have hcw := fun b o => Below.cell (p := ⟨b, o, none⟩) h1
         go_simp; rfl
        simp only [actS]
        apply Run.skip (by first | (go_simp; done) | (go_simp; exact fun h => nomatch h))
        simp only [actS]
        apply Run.skip (by first | (go_simp; done) | (go_simp; exact fun h => nomatch h))
        simp only [actS]
        apply Run.skip (by first | (go_simp; done) | (go_simp; exact fun h => nomatch h))
        simp only [actS]
        apply Run.skip (by first | (go_simp; done) | (go_simp; exact fun h => nomatch h))
        simp only [actS]
        apply Run.skip (by first | (go_simp; done) | (go_simp; exact fun h => nomatch h))
        simp only [actS]
        apply Run.skip (by first | (go_simp; done) | (go_simp; exact fun h => nomatch h))
        simp only [actS]
        apply Run.skip (by first | (go_simp; done) | (go_simp; exact fun h => nomatch h))
        simp only [actS]
        apply Run.skip (by first | (go_simp; done) | (go_simp; exact fun h => nomatch h))
        simp only [actS]
        apply Run.skip (by first | (go_simp; done) | (go_simp; exact fun h => nomatch h))
        simp only [actS]
        apply Run.skip (by first | (go_simp; done) | (go_simp; exact fun h => nomatch h))
        simp only [actS]
        apply Run.skip (by first | (go_simp; done) | (go_simp; exact fun h => nomatch h))
        simp only [actS]
        apply Run.skip (by first | (go_simp; done) | (go_simp; exact fun h => nomatch h))
        simp only [actS]
        apply Run.skip (by first | (go_simp; done) | (go_simp; exact fun h => nomatch h))
        simp only [actS]
        apply Run.skip (by first | (go_simp; done) | (go_simp; exact fun h => nomatch h))
        simp only [actS]
        apply Run.skip (by first | (go_simp; done) | (go_simp; exact fun h => nomatch h))
        simp only [actS]
        apply Run.skip (by first | (go_simp; done) | (go_simp; exact fun h => nomatch h))
        simp only [actS]
        apply Run.skip (by first | (go_simp; done) | (go_simp; exact fun h => nomatch h))
        simp only [actS]
        apply Run.valG (wanted_none rfl _)
        ·intro w1 h1 hk
         have hcw := fun b o => Below.cell (p := ⟨b, o, none⟩) h1
         go_simp; rfl
        simp only [actS]
        apply Run.done
        intro w2 h2 hk
        clear hk
        have F9 := Lib.hid (hFz.out.trans ((Fut.drew _).trans h2))
        clear h2
        go_wp2
        go_roundw
        case rel => exact ⟨j + 1, by omega, by go_num, by rw [hx9'.out]; exact hx, F9⟩
        case measure => simp [intOf] <;> omega
      ·obtain rfl : n = j := by omega
       rw [hpa'.out] at hx
       unfold pkV at hx
       dsimp only at hx
       subst hx
       have hanI : (a : Int) < n := by omega
       have ea : (0 : Int) ≤ a ∧ (a : Int) < n := by omega
       have hA1 := hA.out.fut hFz.out
       have d0 := hA1.wait.cell han
       have d1 := hA1.wait.free a
       have hS9 := hA1.setWait a (-1)
       have hO9 : Only (fun j => j = w2.heap.size) wz (wz.setCell ⟨w2.heap.size, a, none⟩ (.int .i64 (-1))) := Only.set _ _ rfl
       obtain ⟨wS, hwS⟩ : ∃ x, wz.setCell ⟨w2.heap.size, a, none⟩ (.int .i64 (-1)) = x := ⟨_, rfl⟩
       rw [hwS] at hS9 hO9
       have hOu1 := hOu.out.fut RLs.stays hFz.out
       have hOuS : OwnL 1 (w2.heap.size + 2) 94 (RLs (.slice none 0 0)) wS _ (dn.map fun a => T.out.getD a []) := hOu1.only (fun cs x hx => hx.only hO9 fun k arr hk e => by
        obtain ⟨arr2, g, _⟩ := hA1.wait
        exact other_block hk g (by decide) e) hO9 fun k hk e => by
        have := (hOu1.block k hk).1
        omega
       have hFS : Fut w2 wS := ((Only.fut (hFr.out.trans hFz.out)).trans (hO9.mono (S' := fun j => w2.heap.size ≤ j) fun k _ e => by omega)).toFut fun k h => h
       obtain ⟨va, y1, hva⟩ := hS9.aboveAt han
       obtain ⟨Aa, ca, rfl, hal1, hal2⟩ := hva.rep.form
       have hall := aboveP_len G T n a
       have hal3 : (aboveP G T n a).length ≤ 9223372036854775807 := by omega
       have hallt := Lib.hid (aboveP_lt (G := G) (T := T) (n := n) (j := a))
       have hlayh : layP G T wt a = (aboveP G T n a).foldl downP (fun j => if j = a then -1 else wt j) := by unfold layP; rw [hn'.out]
       replace hS9 := Lib.hid hS9
       replace hOuS := Lib.hid hOuS
       replace hFS := Lib.hid hFS
       replace hva := Lib.hid hva
       rw [← hwS] at y1
       replace hwS := Lib.hid hwS
       replace hlayh := Lib.hid hlayh
       obtain ⟨al, hal⟩ : ∃ al, aboveP G T n a = al := ⟨_, rfl⟩
       rw [hal] at hva hlayh hallt hal3 hall y1
       generalize (fun j => if j = a then -1 else wt j) = wt1 at *
       clear hOu1 hO9 hA1 hal hFz hA hOu hFr hal1 hal2
       go_wp2_with fail
       rw [hwS.out]
       go_loopw [133] (fun i wz => ∃ m : Nat, m ≤ al.length ∧ i = .int .i64 m ∧ Hid (AbI wz w2.heap.size (w2.heap.size + 1) (w2.heap.size + 2) n ((al.take m).foldl downP wt1) (aboveP G T n)) ∧ Hid (Fut w2 wz) ∧ Hid (OwnL 1 (w2.heap.size + 2) 3 RIn wz (.slice Aa al.length ca) al) ∧ Hid (OwnL 1 (w2.heap.size + 2) 94 (RLs (.slice none 0 0)) wz u16 (dn.map fun a => T.out.getD a []))) (fun i _ => al.length - (intOf i).toNat)
       case atStart => exact ⟨0, Nat.zero_le _, rfl, hS9, hFS, hva, hOuS⟩
       case round =>
        obtain ⟨m8, hm8, rfl, hA8, hF8, hv8, hO8⟩ := hrel
        obtain ⟨wy, rfl⟩ : ∃ x, x = wr := ⟨_, rfl⟩
        by_cases hlm : m8 < al.length
        ·have hlmI : (m8 : Int) < al.length := by omega
         have e3 : (0 : Int) ≤ m8 ∧ (m8 : Int) < al.length := by omega
         obtain ⟨b3, off3, rfl, z3⟩ := in_at hv8.out.rep hlm
         have hx3 := hallt.out _ (List.getElem_mem hlm)
         have hnx3 := Lib.hid (show (al.take (m8 + 1)).foldl downP wt1 = downP ((al.take m8).foldl downP wt1) al[m8] by rw [List.take_succ_eq_append_getElem hlm, List.foldl_append]; rfl)
         generalize al[m8] = x at *
         generalize (al.take m8).foldl downP wt1 = wt2 at *
         have hxI : (x : Int) < n := by omega
         have e4 : (0 : Int) ≤ x ∧ (x : Int) < n := by omega
         have k0 := hA8.out.wait.cell hx3
         have k1 := hA8.out.wait.free x
         have hS7 := hA8.out.setWait x (wrapP (wt2 x - 1))
         have hO7 : Only (fun j => j = w2.heap.size) wy (wy.setCell ⟨w2.heap.size, x, none⟩ (.int .i64 (wrapP (wt2 x - 1)))) := Only.set _ _ rfl
         unfold wrapP at hS7 hO7
         obtain ⟨wT, hwT⟩ : ∃ y, wy.setCell ⟨w2.heap.size, x, none⟩ (.int .i64 (wrap64 (wt2 x - 1))) = y := ⟨_, rfl⟩
         rw [hwT] at hS7 hO7
         have HS7 := Lib.hid (show AbI wT w2.heap.size (w2.heap.size + 1) (w2.heap.size + 2) n ((al.take (m8 + 1)).foldl downP wt1) (aboveP G T n) by rw [hnx3.out]; exact hS7)
         have HF7 := Lib.hid (((Only.fut hF8.out).trans (hO7.mono (S' := fun j => w2.heap.size ≤ j) fun k _ e => by omega)).toFut fun k h => h)
         have HV7 := Lib.hid (show OwnL 1 (w2.heap.size + 2) 3 RIn wT (.slice (some ⟨b3, off3, none⟩) al.length ca) al from hv8.out.only (fun _ _ h => h) hO7 fun k hk e => by have := (hv8.out.block k hk).1; omega)
         have HOu7 := Lib.hid (show OwnL 1 (w2.heap.size + 2) 94 (RLs (.slice none 0 0)) wT u16 (dn.map fun a => T.out.getD a []) from hO8.out.only (fun cs x hx => hx.only hO7 fun k arr hk e => by
          obtain ⟨arr2, g, _⟩ := hA8.out.wait
          exact other_block hk g (by decide) e) hO7 fun k hk e => by
          have := (hO8.out.block k hk).1
          omega)
         replace hwT := Lib.hid hwT
         generalize wt2 x = wx at *
         clear hA8 hF8 hv8 hO8 hS7 hO7
         go_wp2
         rw [hwT.out]
         go_roundw
         case rel => exact ⟨m8 + 1, by omega, by go_num, HS7, HF7, HV7, HOu7⟩
         case measure => simp [intOf] <;> omega
        ·obtain rfl : m8 = al.length := by omega
         rw [List.take_length, ← hlayh.out] at hA8
         have haT : a < T.out.length := by rw [hn'.out]; exact han
         obtain ⟨ba, oa, va, hea, za, hva2⟩ := ls_at HO.out.rep haT
         subst hea
         have za1 := hF8.out.cell za
         have hgd : T.out.getD a [] = T.out[a] := by rw [List.getD_eq_getElem?_getD, List.getElem?_eq_getElem haT]; rfl
         rw [← hgd] at hva2
         have hdl8 : (dn.map fun a => T.out.getD a []).length ≤ 100000000 := by rw [List.length_map, hdl.out]; omega
         have hnxt := Lib.hid (show ((dn ++ [a]).map fun a => T.out.getD a []) = (dn.map fun a => T.out.getD a []) ++ [T.out.getD a []] by rw [List.map_append]; rfl)
         have hdr2 := Lib.hid (show (dn ++ [a]) ++ rest' = l0 by rw [List.append_assoc]; exact hdr.out)
         have hdl2 := Lib.hid (show (dn ++ [a]).length = q + 1 by rw [List.length_append, hdl.out]; rfl)
         have hre2 := Lib.hid (show ordP G T (n - (q + 1)) (layP G T wt a) = some rest' by rw [show n - (q + 1) = m by have := hm9'.out; omega]; exact hre'.out)
         obtain ⟨pa, hpa9⟩ : ∃ p, T.out.getD a [] = p := ⟨_, rfl⟩
         rw [hpa9] at hva2 hnxt
         generalize (dn.map fun a => T.out.getD a []) = dnl at *
         obtain ⟨Ao, co, rfl, ho1, ho2⟩ := hO8.out.rep.form
         have hb9 : w2.heap.size + 2 ≤ wy.heap.size := hA8.out.low.2.2.2
         have fa := Fut.alloc wy (.cells #[va] 94)
         have hva3 := Lib.hid (hva2.fut RNm.stays hF8.out)
         have hvA : ∃ A9 c9, va = .slice A9 pa.length c9 := by obtain ⟨A9, c9, h, _, _⟩ := hva2.rep.form; exact ⟨A9, c9, h⟩
         obtain ⟨A9, c9, rfl⟩ := hvA
         clear hva2 za hgd hpa9 ho1 ho2 HO
         go_wp2_with (first | (at_builtin; refine wpList_append_LB (R := RLs (.slice none 0 0)) (B := w2.heap.size + 2) (M := 1) (xs := dnl) (ys := [pa]) (e := 94) (by go_simp) _ _ tLL rfl Tryz.underlying33 (.slice none 0 0) 24 infoTL rfl (by decide) RLs.one RLs.keeps rfl rfl (hO8.out.fut RLs.stays fa) (llOne _ _ hva3.out (fun k _ e => by cases e)) ?l3 ?l4 ?b3 ?k3))
         case l3 => simp [maxLen]; omega
         case l4 => simp; omega
         case b3 => simp; omega
         case k3 =>
         intro v' w' o' g' sn'
         have HO9 := Lib.hid (by rw [← hnxt.out] at o'; exact o')
         have g9 : Only (fun k => (Value.slice Ao dnl.length co).ownBlock = some k) (wy.alloc (.cells #[.slice A9 pa.length c9] 94)) w' := Only.grown g' fun k hk => hk
         have HF9 := Lib.hid (show Fut w2 w' from ((Only.fut (hF8.out.trans fa)).trans (g9.mono (S' := fun j => w2.heap.size ≤ j) fun k _ e => by have := (hO8.out.block k e).1; omega)).toFut fun k h => h)
         have HA9 := Lib.hid ((hA8.out.fut fa).only2 g9 fun k arr t ht hk e => by
          obtain ⟨arr2, h9⟩ := (hO8.out.fut RLs.stays fa).typed k e
          exact other_block hk h9 (by rcases ht with rfl | rfl <;> decide) rfl)
         clear o' g' sn' g9 hA8 hF8 hO8 hv8 hS9 hFS hva hOuS hwS hallt
         go_wp2
         go_roundw
         case rel => exact ⟨q + 1, _, dn ++ [a], rest', by omega, by go_num, hre2, hdr2, hdl2, HA9, HO9, HF9⟩
         case measure => simp [intOf] <;> omega
    ·obtain rfl : n = q := by omega
     have hor' := hor.out
     rw [Nat.sub_self] at hor'
     unfold ordP at hor'
     have hr0 : rest = [] := (Option.some.inj hor').symm
     have hdn : dn = l0 := by
      have := hdr.out
      rw [hr0, List.append_nil] at this
      exact this
     have HFin := Lib.hid (show OwnL 1 w.heap.size 94 (RLs (.slice none 0 0)) wA u16 (l0.map fun a => T.out.getD a []) ∧ Fut w wA from ⟨by rw [← hdn]; exact hOu.out.base (by have := F2.out.size; omega), F2.out.trans hFr.out⟩)
     clear hor' hor hdr hdl hA hOu hFr hF hI HO
     go_wp2
     (try simp only [Exit.inBlock, Exit.then])
     refine bodyPost_ret (v := u16) (by simp [results, Tryz.results10, go_sem]) rfl ?_
     exact ⟨_, rfl, HFin.out.1, HFin.out.2⟩
end Go.Proofs.YtdjffkkbjbiihaaGreatDoor
namespace Go.Proofs.YtdjffkkbjbiihaaGreatDoor
open Go.RowKit Go.WideMaps Go.Maps
theorem least_ex {p : Nat → Prop} : ∀ n, p n → ∃ m, p m ∧ ∀ k, p k → m ≤ k := by
 intro n
 induction n using Nat.strongRecOn with
 | _ n ih =>
  intro hn
  by_cases h : ∃ m, m < n ∧ p m
  ·obtain ⟨m, hm, hp⟩ := h
   exact ih m hm hp
  ·exact ⟨n, hn, fun k hk => Nat.le_of_not_lt fun hlt => h ⟨k, hlt, hk⟩⟩
open Classical in
noncomputable def leastF (p : Nat → Prop) : Nat := if h : ∃ m, p m ∧ ∀ k, p k → m ≤ k then h.choose else 0
theorem leastF_spec {p : Nat → Prop} {n : Nat} (h : p n) : p (leastF p) ∧ ∀ k, p k → leastF p ≤ k := by
 have h' := least_ex n h
 unfold leastF
 rw [dif_pos h']
 exact h'.choose_spec
theorem wp_scope_jumps2 {P : Program} {a : Act} {w : World} {Q : Exit → Act → World → Prop} {c rest : Code} (l : Nat) (J : Act → World → Prop) (μ : Act → World → Nat) (hf : findLabel c l = some (.seq .skip rest))
  (pass : ∀ a w, J a w → rest.wp P (Exit.jump l (fun a' w' => J a' w' ∧ μ a' w' < μ a w) Q) a w)
  (first : Hid (∀ a w, J a w → rest.wp P (Exit.jump l J Q) a w) → c.wp P (Exit.jump l J Q) a w) : (Code.scope c).wp P Q a w :=
 wp_scope_jumps l J μ hf (first (Lib.hid fun a w h => wp_mono (pass a w h) fun e a' w' hq => by
  cases e with
  | goto l' => exact ⟨hq.1, hq.2.1⟩
  | _ => exact hq)) fun a w h => wp_seq (wp_skip (pass a w h))
theorem putN_mem {l : Nums} {s : ByteArray} {n : Nat} : ∀ x ∈ putN l s n, x ∈ l ∨ x = (s, n) := fun x hx => by
 unfold putN at hx
 obtain ⟨y, hy, rfl⟩ := List.mem_map.1 hx
 by_cases h : y.1 = s
 ·right; simp [h]
 ·left; simp [h, hy]
theorem setN_mem {l : Nums} {s : ByteArray} {n : Nat} : ∀ x ∈ setN l s n, x ∈ l ∨ x = (s, n) := fun x hx => by
 unfold setN at hx
 split at hx
 ·rcases List.mem_append.1 hx with h | h
  ·exact .inl h
  ·exact .inr (List.mem_singleton.1 h)
 ·exact putN_mem x hx
theorem lk0_le {l : Nums} {B : Nat} (h : ∀ x ∈ l, x.2 ≤ B) (s : ByteArray) : lk0 l s ≤ B := by
 unfold lk0 lkN
 cases hq : l.find? fun x => decide (x.1 = s) with
 | none => exact Nat.zero_le _
 | some x => exact h x (List.mem_of_find?_eq_some hq)
theorem wants_le {l : Nums} {B : Nat} (h : ∀ x ∈ l, x.2 ≤ B) (e : Ed) : e.wants l ≤ B + 1 := by
 unfold Ed.wants
 have := lk0_le h e.t
 split <;> omega
structure OkN (n : Nums) (B : Nat) : Prop where
 nm : ∀ x ∈ n, x.1.size ≤ 140737488351232
 le : ∀ x ∈ n, x.2 ≤ B
theorem OkN.step {s : Nums × Bool} {B : Nat} (h : OkN s.1 B) {e : Ed} (he : e.f.size ≤ 140737488351232) : OkN (stepR s e).1 (B + 1) := by
 unfold stepR
 split
 ·refine ⟨fun x hx => ?_, fun x hx => ?_⟩
  ·rcases setN_mem x hx with h1 | rfl
   ·exact h.nm x h1
   ·exact he
  ·rcases setN_mem x hx with h1 | rfl
   ·have := h.le x h1; omega
   ·exact wants_le h.le e
 ·exact ⟨h.nm, fun x hx => Nat.le_succ_of_le (h.le x hx)⟩
theorem OkN.fold : ∀ (es : List Ed) {s : Nums × Bool} {B : Nat}, OkN s.1 B → (∀ e ∈ es, e.f.size ≤ 140737488351232) → OkN (es.foldl stepR s).1 (B + es.length)
 | [], s, B, h, _ => h
 | e :: r, s, B, h, he => by
  rw [List.foldl_cons, List.length_cons, show B + (r.length + 1) = B + 1 + r.length by omega]
  exact OkN.fold r (h.step (he e List.mem_cons_self)) fun x hx => he x (List.mem_cons_of_mem _ hx)
theorem raise_ok {es : List Ed} {f : Nat} {n nf : Nums} (h : raiseR es f n = some nf) : ∃ f', f = f' + 1 ∧ (∀ x ∈ n, x.2 ≤ 100000000) ∧ ((roundR es n).2 = true → raiseR es f' (roundR es n).1 = some nf) ∧ ((roundR es n).2 = false → (roundR es n).1 = nf) := by
 cases f with
 | zero => cases h
 | succ f =>
  unfold raiseR at h
  split at h
  ·rename_i h1
   refine ⟨f, rfl, fun x hx => by simpa using List.all_eq_true.1 h1 x hx, fun h2 => ?_, fun h2 => ?_⟩
   ·rw [if_pos h2] at h; exact h
   ·rw [if_neg (by rw [h2]; decide)] at h
    exact Option.some.inj h
  ·cases h
abbrev tLev : TypeId := 97
def RLv (_ : World) (cs : List Value) (x : ByteArray × Nat) : Prop := cs = [.string x.1, .int .i32 (x.2 : Nat)]
theorem RLv.stays : Stays RLv := fun _ _ _ _ _ h => h
theorem RLv.keeps {e : TypeId} : Keeps e RLv := fun _ _ _ _ _ h _ _ => h
theorem RLv.one : ∀ (w : World) cs x, RLv w cs x → ∀ u ∈ cs, u.oneCell' = true := fun w cs x h u hu => by
 obtain rfl : cs = _ := h
 simp only [List.mem_cons, List.not_mem_nil, or_false] at hu
 rcases hu with rfl | rfl <;> rfl
theorem infoLv : (Tryz.prog.info? 97).map (fun i => (i.zero, i.size, i.bytes)) = some (some (.agg #[.string ⟨#[]⟩, .int .i32 0]), 2, 24) := by kernel_rfl
theorem lvOne (w : World) (s : ByteArray) (n : Nat) (e : TypeId) : SlRep 2 1 RLv (w.alloc (.cells #[.string s, .int .i32 (n : Nat)] e)) (.slice (some ⟨w.heap.size, 0, none⟩) 1 1) [(s, n)] := slOne w [.string s, .int .i32 (n : Nat)] _ e rfl rfl
def LevJ (w0 : World) (es : List Ed) (G : Gr) (nf : Nums) (f : Nat) (a : Act) (W : World) : Prop :=
 ∃ (Ae : Option Addr) (ce mb mbl : Nat) (n : Nums) (wb : World),
  Hid (Fut w0 wb) ∧ Hid (OwnL 4 w0.heap.size tEdge REd wb (.slice Ae es.length ce) es) ∧ Hid (GrI w0.heap.size wb mb G) ∧ Hid (wb.heap.size ≤ mbl) ∧ Hid (Fut wb W) ∧ Hid (MapE strV W mbl (encQ n)) ∧ Hid (OkN n 100000000) ∧ Hid (raiseR es f n = some nf) ∧
  ∃ (u0 u1 u2 u3 u4 u7 u8 u9 u10 u12 u13 u14 u15 u16 u17 u18 u19 u20 u21 u22 u23 u24 u25 u26 u27 u28 u29 u30 u31 u32 u33 u34 u35 u36 u37 u38 u39 u40 u41 u42 u43 u44 u45 u46 u47 u48 u49 u50 u51 u52 u53 u54 u55 u56 u57 u58 u59 u60 u61 u62 u63 u64 u65 u66 u67 u68 u69 u70 u71 u72 u73 u74 u75 u76 u77 u78 u79 u80 u81 u82 u83 u84 u85 u86 u87 u88 u89 u90 u91 u92 u93 u94 u95 u96 u97 u98 u99 u100 u101 u102 u103 u104 u105 : Value), a = ⟨#[u0, u1, u2, u3, u4, .slice Ae es.length ce, .map (some mb), u7, u8, u9, u10, .map (some mbl), u12, u13, u14, u15, u16, u17, u18, u19, u20, u21, u22, u23, u24, u25, u26, u27, u28, u29, u30, u31, u32, u33, u34, u35, u36, u37, u38, u39, u40, u41, u42, u43, u44, u45, u46, u47, u48, u49, u50, u51, u52, u53, u54, u55, u56, u57, u58, u59, u60, u61, u62, u63, u64, u65, u66, u67, u68, u69, u70, u71, u72, u73, u74, u75, u76, u77, u78, u79, u80, u81, u82, u83, u84, u85, u86, u87, u88, u89, u90, u91, u92, u93, u94, u95, u96, u97, u98, u99, u100, u101, u102, u103, u104, u105], []⟩
noncomputable def LevM (w0 : World) (es : List Ed) (G : Gr) (nf : Nums) (a : Act) (W : World) : Nat := leastF fun f => LevJ w0 es G nf f a W
theorem lev_next {w0 : World} {es : List Ed} {G : Gr} {nf : Nums} {f : Nat} {a : Act} {W : World} (h : LevJ w0 es G nf f a W) : (∃ f, LevJ w0 es G nf f a W) ∧ LevM w0 es G nf a W < f + 1 := ⟨⟨f, h⟩, Nat.lt_succ_of_le ((leastF_spec (p := fun f => LevJ w0 es G nf f a W) h).2 f h)⟩
end Go.Proofs.YtdjffkkbjbiihaaGreatDoor
