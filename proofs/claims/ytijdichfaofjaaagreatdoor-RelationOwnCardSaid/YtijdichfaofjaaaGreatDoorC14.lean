/- BookA, BookIR -/
import Derived.Test.YtijdichfaofjaaaGreatDoorC13
/- The book of numbers and rows: Ints, Rows; Apart. Printed by booka.py. -/
namespace Go.Proofs.YtijdichfaofjaaaGreatDoor
open Go.RowKit Go.WideMaps
set_option linter.unusedSimpArgs false
set_option linter.unusedVariables false

theorem Ints_any {B : Nat} {w : World} {b : Nat} {n : Int} {vs : Nat → Value} {hs : List Hd} {Al : Option Addr} {nl cl : Nat} (hb : BookAt 71 w b n vs) (hn : 0 ≤ n ∧ n < 1000) (hH : OwnL 3 B 113 RH w (vs 14) hs) (hvb : (vs 14).ownBlock ≠ some b) (hB : B ≤ w.heap.size) (hl : hs.length < 1000) :
    Calls Tryz.prog 11 #[.pointer (some ⟨b, 0, none⟩), .slice Al nl cl] w fun e w' => (∃ u, e = .returned u) ∧ ∃ v', BookAt 71 w' b (n + 1) (updV vs 14 v') ∧ OwnL 3 B 113 RH w' v' (hs ++ [⟨.slice Al nl cl, .slice none 0 0, n + 1⟩]) ∧
      Only (fun k => k = b ∨ (vs 14).ownBlock = some k) w w' ∧ ∀ x, v'.ownBlock = some x → (vs 14).ownBlock = some x ∨ w.heap.size ≤ x := by
  have HK := Lib.hid (keepInt_any (Al := Al) (nl := nl) (cl := cl) hb hn hH hvb hB hl)
  clear hb hH
  go_enter Tryz.func11, Tryz.ntmps11
  go_wp2_with fail
  refine HK.out.mono ?_
  rintro e w2 ⟨⟨u, rfl⟩, hr⟩
  have HR := Lib.hid hr
  clear hr
  go_wp2
  go_end0
  exact ⟨⟨_, rfl⟩, HR.out⟩
theorem Rows_any {B : Nat} {w : World} {b : Nat} {n : Int} {vs : Nat → Value} {hs : List Hd} {Al : Option Addr} {nl cl : Nat} (hb : BookAt 71 w b n vs) (hn : 0 ≤ n ∧ n < 1000) (hH : OwnL 3 B 115 RH w (vs 15) hs) (hvb : (vs 15).ownBlock ≠ some b) (hB : B ≤ w.heap.size) (hl : hs.length < 1000) :
    Calls Tryz.prog 12 #[.pointer (some ⟨b, 0, none⟩), .slice Al nl cl] w fun e w' => (∃ u, e = .returned u) ∧ ∃ v', BookAt 71 w' b (n + 1) (updV vs 15 v') ∧ OwnL 3 B 115 RH w' v' (hs ++ [⟨.slice Al nl cl, .slice none 0 0, n + 1⟩]) ∧
      Only (fun k => k = b ∨ (vs 15).ownBlock = some k) w w' ∧ ∀ x, v'.ownBlock = some x → (vs 15).ownBlock = some x ∨ w.heap.size ≤ x := by
  have HK := Lib.hid (keepRow_any (Al := Al) (nl := nl) (cl := cl) hb hn hH hvb hB hl)
  clear hb hH
  go_enter Tryz.func12, Tryz.ntmps12
  go_wp2_with fail
  refine HK.out.mono ?_
  rintro e w2 ⟨⟨u, rfl⟩, hr⟩
  have HR := Lib.hid hr
  clear hr
  go_wp2
  go_end0
  exact ⟨⟨_, rfl⟩, HR.out⟩
/-- The book holds numbers and rows, and nothing else. -/
def OnlyIR (vs : Nat → Value) : Prop := ∀ j, j ≠ 14 → j ≠ 15 → vs j = .slice none 0 0
theorem OnlyIR.cell {w : World} {b : Nat} {n : Int} {vs : Nat → Value} (h : OnlyIR vs) (hb : BookAt 71 w b n vs) {j : Nat} (h1 : 1 ≤ j) (h2 : j < 32) (h3 : j ≠ 14) (h4 : j ≠ 15) : w.cell? ⟨b, j, none⟩ = some (.slice none 0 0) := by
  rw [← h j h3 h4]; exact hb.cell h1 h2
set_option maxHeartbeats 1600000 in
set_option maxRecDepth 100000 in
theorem lookOne_any {w : World} {b : Nat} {n : Int} {vs : Nat → Value} {hi hr : List Hd} {ni nr : Nat → Nat} (hb : BookAt 71 w b n vs) (hv : OnlyIR vs) (hI : SlRep 3 maxLen RH w (vs 14) hi) (hR : SlRep 3 maxLen RH w (vs 15) hr) (lI : Looks 1 RI markI ni w hi) (lR : Looks 24 RR markR nr w hr)
    (bI : ∀ i, i < hi.length → ni i + 70 ≤ 17592186044416) (bR : ∀ i, i < hr.length → nr i + 70 ≤ 1466015503700) :
    Calls Tryz.prog 66 #[.pointer (some ⟨b, 0, none⟩)] w fun e w' => e = .returned (.bool true) ∧ Fut w w' := by
  have HB := Lib.hid hb
  have HV := Lib.hid hv
  have HI := Lib.hid hI
  have HR := Lib.hid hR
  have LI := Lib.hid lI
  have LR := Lib.hid lR
  have BI := Lib.hid bI
  have BR := Lib.hid bR
  clear hb hv hI hR lI lR bI bR
  go_enter Tryz.func66, Tryz.ntmps66
  have F0 := Lib.hid (Fut.refl w)
  go_wp2_with fail
  refine (lookValue_nil (HV.out.cell (HB.out.only (S := fun _ => False) (Only.fut F0.out) (fun h => h)) (j := 1) (by omega) (by omega) (by omega) (by omega))).mono ?_
  rintro e w' ⟨rfl, h'⟩
  replace h' := h'.symm
  subst h'
  go_wp2_with fail
  refine (lookTuple_nil (HV.out.cell (HB.out.only (S := fun _ => False) (Only.fut F0.out) (fun h => h)) (j := 2) (by omega) (by omega) (by omega) (by omega))).mono ?_
  rintro e w' ⟨rfl, h'⟩
  replace h' := h'.symm
  subst h'
  go_wp2_with fail
  refine (lookFact_nil (HV.out.cell (HB.out.only (S := fun _ => False) (Only.fut F0.out) (fun h => h)) (j := 3) (by omega) (by omega) (by omega) (by omega))).mono ?_
  rintro e w' ⟨rfl, h'⟩
  replace h' := h'.symm
  subst h'
  go_wp2_with fail
  refine (lookTerm_nil (HV.out.cell (HB.out.only (S := fun _ => False) (Only.fut F0.out) (fun h => h)) (j := 4) (by omega) (by omega) (by omega) (by omega))).mono ?_
  rintro e w' ⟨rfl, h'⟩
  replace h' := h'.symm
  subst h'
  go_wp2_with fail
  refine (lookExpr_nil (HV.out.cell (HB.out.only (S := fun _ => False) (Only.fut F0.out) (fun h => h)) (j := 5) (by omega) (by omega) (by omega) (by omega))).mono ?_
  rintro e w' ⟨rfl, h'⟩
  replace h' := h'.symm
  subst h'
  go_wp2_with fail
  refine (lookLiteral_nil (HV.out.cell (HB.out.only (S := fun _ => False) (Only.fut F0.out) (fun h => h)) (j := 6) (by omega) (by omega) (by omega) (by omega))).mono ?_
  rintro e w' ⟨rfl, h'⟩
  replace h' := h'.symm
  subst h'
  go_wp2_with fail
  refine (lookArg_nil (HV.out.cell (HB.out.only (S := fun _ => False) (Only.fut F0.out) (fun h => h)) (j := 7) (by omega) (by omega) (by omega) (by omega))).mono ?_
  rintro e w' ⟨rfl, h'⟩
  replace h' := h'.symm
  subst h'
  go_wp2_with fail
  refine (lookRule_nil (HV.out.cell (HB.out.only (S := fun _ => False) (Only.fut F0.out) (fun h => h)) (j := 8) (by omega) (by omega) (by omega) (by omega))).mono ?_
  rintro e w' ⟨rfl, h'⟩
  replace h' := h'.symm
  subst h'
  go_wp2_with fail
  refine (lookPair_nil (HV.out.cell (HB.out.only (S := fun _ => False) (Only.fut F0.out) (fun h => h)) (j := 9) (by omega) (by omega) (by omega) (by omega))).mono ?_
  rintro e w' ⟨rfl, h'⟩
  replace h' := h'.symm
  subst h'
  go_wp2_with fail
  refine (lookBind_nil (HV.out.cell (HB.out.only (S := fun _ => False) (Only.fut F0.out) (fun h => h)) (j := 10) (by omega) (by omega) (by omega) (by omega))).mono ?_
  rintro e w' ⟨rfl, h'⟩
  replace h' := h'.symm
  subst h'
  go_wp2_with fail
  refine (lookBindList_nil (HV.out.cell (HB.out.only (S := fun _ => False) (Only.fut F0.out) (fun h => h)) (j := 11) (by omega) (by omega) (by omega) (by omega))).mono ?_
  rintro e w' ⟨rfl, h'⟩
  replace h' := h'.symm
  subst h'
  go_wp2_with fail
  refine (lookText_nil (HV.out.cell (HB.out.only (S := fun _ => False) (Only.fut F0.out) (fun h => h)) (j := 12) (by omega) (by omega) (by omega) (by omega))).mono ?_
  rintro e w' ⟨rfl, h'⟩
  replace h' := h'.symm
  subst h'
  go_wp2_with fail
  refine (lookTextList_nil (HV.out.cell (HB.out.only (S := fun _ => False) (Only.fut F0.out) (fun h => h)) (j := 13) (by omega) (by omega) (by omega) (by omega))).mono ?_
  rintro e w' ⟨rfl, h'⟩
  replace h' := h'.symm
  subst h'
  go_wp2_with fail
  refine (lookInt_any (M := 0) ((HB.out.only (S := fun _ => False) (Only.fut F0.out) (fun h => h)).cell (j := 14) (by omega) (by omega)) (HI.out.fut RH.stays F0.out) (LI.out.fut RI.stays F0.out) BI.out).mono ?_
  rintro e w1 ⟨rfl, hf1⟩
  have F1 := Lib.hid (F0.out.trans hf1)
  clear hf1
  go_wp2_with fail
  refine (lookRow_any (M := 0) ((HB.out.only (S := fun _ => False) (Only.fut F1.out) (fun h => h)).cell (j := 15) (by omega) (by omega)) (HR.out.fut RH.stays F1.out) (LR.out.fut RR.stays F1.out) BR.out).mono ?_
  rintro e w2 ⟨rfl, hf2⟩
  have F2 := Lib.hid (F1.out.trans hf2)
  clear hf2
  go_wp2_with fail
  refine (lookToken_nil (HV.out.cell (HB.out.only (S := fun _ => False) (Only.fut F2.out) (fun h => h)) (j := 16) (by omega) (by omega) (by omega) (by omega))).mono ?_
  rintro e w' ⟨rfl, h'⟩
  replace h' := h'.symm
  subst h'
  go_wp2
  go_ret
  exact ⟨rfl, F2.out⟩
set_option maxHeartbeats 1600000 in
set_option maxRecDepth 100000 in
theorem lookTwo_any {w : World} {b : Nat} {n : Int} {vs : Nat → Value} {hi hr : List Hd} {ni nr : Nat → Nat} (hb : BookAt 71 w b n vs) (hv : OnlyIR vs) (hI : SlRep 3 maxLen RH w (vs 14) hi) (hR : SlRep 3 maxLen RH w (vs 15) hr) (lI : Looks 1 RI markI ni w hi) (lR : Looks 24 RR markR nr w hr)
    (bI : ∀ i, i < hi.length → ni i + 70 ≤ 17592186044416) (bR : ∀ i, i < hr.length → nr i + 70 ≤ 1466015503700) :
    Calls Tryz.prog 67 #[.pointer (some ⟨b, 0, none⟩)] w fun e w' => e = .returned (.bool true) ∧ Fut w w' := by
  have HB := Lib.hid hb
  have HV := Lib.hid hv
  have HI := Lib.hid hI
  have HR := Lib.hid hR
  have LI := Lib.hid lI
  have LR := Lib.hid lR
  have BI := Lib.hid bI
  have BR := Lib.hid bR
  clear hb hv hI hR lI lR bI bR
  go_enter Tryz.func67, Tryz.ntmps67
  have F0 := Lib.hid (Fut.refl w)
  go_wp2_with fail
  refine (lookPred_nil (HV.out.cell (HB.out.only (S := fun _ => False) (Only.fut F0.out) (fun h => h)) (j := 17) (by omega) (by omega) (by omega) (by omega))).mono ?_
  rintro e w' ⟨rfl, h'⟩
  replace h' := h'.symm
  subst h'
  go_wp2_with fail
  refine (lookType_nil (HV.out.cell (HB.out.only (S := fun _ => False) (Only.fut F0.out) (fun h => h)) (j := 18) (by omega) (by omega) (by omega) (by omega))).mono ?_
  rintro e w' ⟨rfl, h'⟩
  replace h' := h'.symm
  subst h'
  go_wp2_with fail
  refine (lookSig_nil (HV.out.cell (HB.out.only (S := fun _ => False) (Only.fut F0.out) (fun h => h)) (j := 19) (by omega) (by omega) (by omega) (by omega))).mono ?_
  rintro e w' ⟨rfl, h'⟩
  replace h' := h'.symm
  subst h'
  go_wp2_with fail
  refine (lookEdge_nil (HV.out.cell (HB.out.only (S := fun _ => False) (Only.fut F0.out) (fun h => h)) (j := 20) (by omega) (by omega) (by omega) (by omega))).mono ?_
  rintro e w' ⟨rfl, h'⟩
  replace h' := h'.symm
  subst h'
  go_wp2_with fail
  refine (lookLevel_nil (HV.out.cell (HB.out.only (S := fun _ => False) (Only.fut F0.out) (fun h => h)) (j := 21) (by omega) (by omega) (by omega) (by omega))).mono ?_
  rintro e w' ⟨rfl, h'⟩
  replace h' := h'.symm
  subst h'
  go_wp2_with fail
  refine (lookMask_nil (HV.out.cell (HB.out.only (S := fun _ => False) (Only.fut F0.out) (fun h => h)) (j := 22) (by omega) (by omega) (by omega) (by omega))).mono ?_
  rintro e w' ⟨rfl, h'⟩
  replace h' := h'.symm
  subst h'
  go_wp2_with fail
  refine (lookStep_nil (HV.out.cell (HB.out.only (S := fun _ => False) (Only.fut F0.out) (fun h => h)) (j := 23) (by omega) (by omega) (by omega) (by omega))).mono ?_
  rintro e w' ⟨rfl, h'⟩
  replace h' := h'.symm
  subst h'
  go_wp2_with fail
  refine (lookRanked_nil (HV.out.cell (HB.out.only (S := fun _ => False) (Only.fut F0.out) (fun h => h)) (j := 24) (by omega) (by omega) (by omega) (by omega))).mono ?_
  rintro e w' ⟨rfl, h'⟩
  replace h' := h'.symm
  subst h'
  go_wp2_with fail
  refine (lookAdorned_nil (HV.out.cell (HB.out.only (S := fun _ => False) (Only.fut F0.out) (fun h => h)) (j := 25) (by omega) (by omega) (by omega) (by omega))).mono ?_
  rintro e w' ⟨rfl, h'⟩
  replace h' := h'.symm
  subst h'
  go_wp2_with fail
  refine (lookTable_nil (HV.out.cell (HB.out.only (S := fun _ => False) (Only.fut F0.out) (fun h => h)) (j := 26) (by omega) (by omega) (by omega) (by omega))).mono ?_
  rintro e w' ⟨rfl, h'⟩
  replace h' := h'.symm
  subst h'
  go_wp2_with fail
  refine (lookProof_nil (HV.out.cell (HB.out.only (S := fun _ => False) (Only.fut F0.out) (fun h => h)) (j := 27) (by omega) (by omega) (by omega) (by omega))).mono ?_
  rintro e w' ⟨rfl, h'⟩
  replace h' := h'.symm
  subst h'
  go_wp2_with fail
  refine (lookSize_nil (HV.out.cell (HB.out.only (S := fun _ => False) (Only.fut F0.out) (fun h => h)) (j := 28) (by omega) (by omega) (by omega) (by omega))).mono ?_
  rintro e w' ⟨rfl, h'⟩
  replace h' := h'.symm
  subst h'
  go_wp2_with fail
  refine (lookFloat_nil (HV.out.cell (HB.out.only (S := fun _ => False) (Only.fut F0.out) (fun h => h)) (j := 29) (by omega) (by omega) (by omega) (by omega))).mono ?_
  rintro e w' ⟨rfl, h'⟩
  replace h' := h'.symm
  subst h'
  go_wp2_with fail
  refine (lookCommit_nil (HV.out.cell (HB.out.only (S := fun _ => False) (Only.fut F0.out) (fun h => h)) (j := 30) (by omega) (by omega) (by omega) (by omega))).mono ?_
  rintro e w' ⟨rfl, h'⟩
  replace h' := h'.symm
  subst h'
  go_wp2_with fail
  refine (lookEvent_nil (HV.out.cell (HB.out.only (S := fun _ => False) (Only.fut F0.out) (fun h => h)) (j := 31) (by omega) (by omega) (by omega) (by omega))).mono ?_
  rintro e w' ⟨rfl, h'⟩
  replace h' := h'.symm
  subst h'
  go_wp2
  go_ret
  exact ⟨rfl, F0.out⟩
theorem mark_cong {α : Type} {mk : Int → α} {hs : List Hd} {f : Nat → List α} {i : Nat} (hi : i < hs.length) : markF mk hs f i = List.replicate (f i).length (mk (hs.getD i ⟨.slice none 0 0, .slice none 0 0, 0⟩).n) := by
  have h1 : hs[i]? = some hs[i] := List.getElem?_eq_getElem hi
  rw [markF_at h1, List.getD_eq_getElem?_getD, h1]
  rfl
/-- The book of numbers and rows, with what it holds. -/
structure IR (B : Nat) (w : World) (b : Nat) (n : Int) (vs : Nat → Value) (hi hr : List Hd) (fi : Nat → List Int) (fr : Nat → List Rw) : Prop where
  book : BookAt 71 w b n vs
  only : OnlyIR vs
  heldI : OwnL 3 B 113 RH w (vs 14) hi
  heldR : OwnL 3 B 115 RH w (vs 15) hr
  listsI : Lists 1 B 3 RI w hi fi
  listsR : Lists 24 B 27 RR w hr fr
  base : B ≤ w.heap.size
section
variable {B : Nat} {w : World} {b : Nat} {n : Int} {vs : Nat → Value} {hi hr : List Hd} {fi : Nat → List Int} {fr : Nat → List Rw}
theorem IR.tB (h : IR B w b n vs hi hr fi fr) : Ty w 71 b := by
  obtain ⟨arr, h0, _⟩ := h.book.blk
  exact ⟨arr, h0⟩
theorem IR.tHI (h : IR B w b n vs hi hr fi fr) {k : Nat} (hk : (vs 14).ownBlock = some k) : Ty w 113 k := h.heldI.typed k hk
theorem IR.tHR (h : IR B w b n vs hi hr fi fr) {k : Nat} (hk : (vs 15).ownBlock = some k) : Ty w 115 k := h.heldR.typed k hk
theorem IR.tI (h : IR B w b n vs hi hr fi fr) {k : Nat} (hk : ownsL hi k) : Ty w 3 k := h.listsI.typed k hk
theorem IR.tR (h : IR B w b n vs hi hr fi fr) {k : Nat} (hk : ownsL hr k) : Ty w 27 k := h.listsR.typed k hk
/-- All that it owns. -/
def IRown (vs : Nat → Value) (hi hr : List Hd) (k : Nat) : Prop := (ownsL hi k ∨ (vs 14).ownBlock = some k) ∨ ownsL hr k ∨ (vs 15).ownBlock = some k

set_option maxHeartbeats 1600000 in
set_option maxRecDepth 100000 in
theorem growAll_any {ni nr : Nat → Nat} (h : IR B w b n vs hi hr (fun i => List.replicate (ni i) (markI ((hi.getD i ⟨.slice none 0 0, .slice none 0 0, 0⟩).n))) (fun i => List.replicate (nr i) (markR ((hr.getD i ⟨.slice none 0 0, .slice none 0 0, 0⟩).n)))) (bI : ∀ i, i < hi.length → ni i + 70 ≤ 17592186044416) (bR : ∀ i, i < hr.length → nr i + 70 ≤ 1466015503700) :
    Calls Tryz.prog 65 #[.pointer (some ⟨b, 0, none⟩)] w fun e w' => (∃ u, e = .returned u) ∧ ∃ hi' hr', hi'.length = hi.length ∧ hr'.length = hr.length ∧ BookAt 71 w' b n vs ∧ SlRep 3 maxLen RH w' (vs 14) hi' ∧ SlRep 3 maxLen RH w' (vs 15) hr' ∧ Looks 1 RI markI ni w' hi' ∧ Looks 24 RR markR nr w' hr' ∧ Only (IRown vs hi hr) w w' := by
  have H := Lib.hid h
  have HV := Lib.hid h.only
  have BI := Lib.hid bI
  have BR := Lib.hid bR
  clear h bI bR
  go_enter Tryz.func65, Tryz.ntmps65
  go_wp2_with fail
  refine (growValue_nil (HV.out.cell H.out.book (j := 1) (by omega) (by omega) (by omega) (by omega))).mono ?_
  rintro e w' ⟨⟨u, rfl⟩, h'⟩
  replace h' := h'.symm
  subst h'
  go_wp2_with fail
  refine (growTuple_nil (HV.out.cell H.out.book (j := 2) (by omega) (by omega) (by omega) (by omega))).mono ?_
  rintro e w' ⟨⟨u, rfl⟩, h'⟩
  replace h' := h'.symm
  subst h'
  go_wp2_with fail
  refine (growFact_nil (HV.out.cell H.out.book (j := 3) (by omega) (by omega) (by omega) (by omega))).mono ?_
  rintro e w' ⟨⟨u, rfl⟩, h'⟩
  replace h' := h'.symm
  subst h'
  go_wp2_with fail
  refine (growTerm_nil (HV.out.cell H.out.book (j := 4) (by omega) (by omega) (by omega) (by omega))).mono ?_
  rintro e w' ⟨⟨u, rfl⟩, h'⟩
  replace h' := h'.symm
  subst h'
  go_wp2_with fail
  refine (growExpr_nil (HV.out.cell H.out.book (j := 5) (by omega) (by omega) (by omega) (by omega))).mono ?_
  rintro e w' ⟨⟨u, rfl⟩, h'⟩
  replace h' := h'.symm
  subst h'
  go_wp2_with fail
  refine (growLiteral_nil (HV.out.cell H.out.book (j := 6) (by omega) (by omega) (by omega) (by omega))).mono ?_
  rintro e w' ⟨⟨u, rfl⟩, h'⟩
  replace h' := h'.symm
  subst h'
  go_wp2_with fail
  refine (growArg_nil (HV.out.cell H.out.book (j := 7) (by omega) (by omega) (by omega) (by omega))).mono ?_
  rintro e w' ⟨⟨u, rfl⟩, h'⟩
  replace h' := h'.symm
  subst h'
  go_wp2_with fail
  refine (growRule_nil (HV.out.cell H.out.book (j := 8) (by omega) (by omega) (by omega) (by omega))).mono ?_
  rintro e w' ⟨⟨u, rfl⟩, h'⟩
  replace h' := h'.symm
  subst h'
  go_wp2_with fail
  refine (growPair_nil (HV.out.cell H.out.book (j := 9) (by omega) (by omega) (by omega) (by omega))).mono ?_
  rintro e w' ⟨⟨u, rfl⟩, h'⟩
  replace h' := h'.symm
  subst h'
  go_wp2_with fail
  refine (growBind_nil (HV.out.cell H.out.book (j := 10) (by omega) (by omega) (by omega) (by omega))).mono ?_
  rintro e w' ⟨⟨u, rfl⟩, h'⟩
  replace h' := h'.symm
  subst h'
  go_wp2_with fail
  refine (growBindList_nil (HV.out.cell H.out.book (j := 11) (by omega) (by omega) (by omega) (by omega))).mono ?_
  rintro e w' ⟨⟨u, rfl⟩, h'⟩
  replace h' := h'.symm
  subst h'
  go_wp2_with fail
  refine (growText_nil (HV.out.cell H.out.book (j := 12) (by omega) (by omega) (by omega) (by omega))).mono ?_
  rintro e w' ⟨⟨u, rfl⟩, h'⟩
  replace h' := h'.symm
  subst h'
  go_wp2_with fail
  refine (growTextList_nil (HV.out.cell H.out.book (j := 13) (by omega) (by omega) (by omega) (by omega))).mono ?_
  rintro e w' ⟨⟨u, rfl⟩, h'⟩
  replace h' := h'.symm
  subst h'
  go_wp2_with fail
  refine (growInt_any (H.out.book.cell (j := 14) (by omega) (by omega)) H.out.heldI H.out.listsI (fun hk => H.out.tI hk |>.ne H.out.tB (by decide) rfl) (fun hk => H.out.tHI hk |>.ne H.out.tB (by decide) rfl) (fun k hk hk2 => (H.out.tHI hk).ne (H.out.tI hk2) (by decide) rfl) H.out.base BI.out).mono ?_
  rintro e w2 ⟨⟨u, rfl⟩, hi', hG⟩
  have O2 := hG.only
  have hB2 := H.out.book.only O2 (fun hk => hk.elim (fun hk => H.out.tI hk |>.ne H.out.tB (by decide) rfl) fun hk => H.out.tHI hk |>.ne H.out.tB (by decide) rfl)
  have hR2 := H.out.heldR.only (RH.same _ _) O2 (fun k hk hk2 => hk2.elim (fun hk2 => (H.out.tHR hk).ne (H.out.tI hk2) (by decide) rfl) fun hk2 => (H.out.tHR hk).ne (H.out.tHI hk2) (by decide) rfl)
  have lR2 := H.out.listsR.only RR.same O2 (fun k hk hk2 => hk2.elim (fun hk2 => (H.out.tR hk).ne (H.out.tI hk2) (by decide) rfl) fun hk2 => (H.out.tR hk).ne (H.out.tHI hk2) (by decide) rfl)
  have s2 := O2.size
  have HB2 := Lib.hid hB2
  have HR2 := Lib.hid hR2
  have LR2 := Lib.hid lR2
  have HG := Lib.hid hG
  have HO2 := Lib.hid O2
  clear hB2 hR2 lR2 hG O2
  go_wp2_with fail
  refine (growRow_any (HB2.out.cell (j := 15) (by omega) (by omega)) HR2.out LR2.out (fun hk => H.out.tR hk |>.ne H.out.tB (by decide) rfl) (fun hk => H.out.tHR hk |>.ne H.out.tB (by decide) rfl) (fun k hk hk2 => (H.out.tHR hk).ne (H.out.tR hk2) (by decide) rfl) (Nat.le_trans H.out.base s2) BR.out).mono ?_
  rintro e w3 ⟨⟨u, rfl⟩, hr', hG3⟩
  have O3 := hG3.only
  have hB3 := HB2.out.only O3 (fun hk => hk.elim (fun hk => H.out.tR hk |>.ne H.out.tB (by decide) rfl) fun hk => H.out.tHR hk |>.ne H.out.tB (by decide) rfl)
  obtain ⟨gI, kI⟩ := HG.out.looks RI.same O3 (fun k hk => hk.elim (fun hk => ⟨(H.out.listsR.lt k hk).2, fun hk2 => (H.out.tR hk).ne (H.out.tI hk2) (by decide) rfl, fun hk2 => (H.out.tR hk).ne (H.out.tHI hk2) (by decide) rfl⟩) fun hk => ⟨(H.out.heldR.block k hk).2, fun hk2 => (H.out.tHR hk).ne (H.out.tI hk2) (by decide) rfl, fun hk2 => (H.out.tHR hk).ne (H.out.tHI hk2) (by decide) rfl⟩)
  obtain ⟨gR, kR⟩ := hG3.looks (W' := w3) (S := fun _ => False) RR.same (Only.refl _) (fun k hk => hk.elim)
  have HB3 := Lib.hid hB3
  have HX := Lib.hid (show hi'.length = hi.length ∧ hr'.length = hr.length ∧ SlRep 3 maxLen RH w3 (vs 14) hi' ∧ SlRep 3 maxLen RH w3 (vs 15) hr' ∧ Looks 1 RI markI ni w3 hi' ∧ Looks 24 RR markR nr w3 hr' ∧ Only (IRown vs hi hr) w w3 from ⟨HG.out.len, hG3.len, gI.rep, gR.rep, kI, kR, (HO2.out.mono fun k _ hk => .inl hk).trans (O3.mono fun k _ hk => .inr hk)⟩)
  clear hB3 hG3 O3 gI kI gR kR HR2 LR2 HG HO2
  go_wp2_with fail
  refine (growToken_nil (HV.out.cell HB3.out (j := 16) (by omega) (by omega) (by omega) (by omega))).mono ?_
  rintro e w' ⟨⟨u, rfl⟩, h'⟩
  replace h' := h'.symm
  subst h'
  go_wp2_with fail
  refine (growPred_nil (HV.out.cell HB3.out (j := 17) (by omega) (by omega) (by omega) (by omega))).mono ?_
  rintro e w' ⟨⟨u, rfl⟩, h'⟩
  replace h' := h'.symm
  subst h'
  go_wp2_with fail
  refine (growType_nil (HV.out.cell HB3.out (j := 18) (by omega) (by omega) (by omega) (by omega))).mono ?_
  rintro e w' ⟨⟨u, rfl⟩, h'⟩
  replace h' := h'.symm
  subst h'
  go_wp2_with fail
  refine (growSig_nil (HV.out.cell HB3.out (j := 19) (by omega) (by omega) (by omega) (by omega))).mono ?_
  rintro e w' ⟨⟨u, rfl⟩, h'⟩
  replace h' := h'.symm
  subst h'
  go_wp2_with fail
  refine (growEdge_nil (HV.out.cell HB3.out (j := 20) (by omega) (by omega) (by omega) (by omega))).mono ?_
  rintro e w' ⟨⟨u, rfl⟩, h'⟩
  replace h' := h'.symm
  subst h'
  go_wp2_with fail
  refine (growLevel_nil (HV.out.cell HB3.out (j := 21) (by omega) (by omega) (by omega) (by omega))).mono ?_
  rintro e w' ⟨⟨u, rfl⟩, h'⟩
  replace h' := h'.symm
  subst h'
  go_wp2_with fail
  refine (growMask_nil (HV.out.cell HB3.out (j := 22) (by omega) (by omega) (by omega) (by omega))).mono ?_
  rintro e w' ⟨⟨u, rfl⟩, h'⟩
  replace h' := h'.symm
  subst h'
  go_wp2_with fail
  refine (growStep_nil (HV.out.cell HB3.out (j := 23) (by omega) (by omega) (by omega) (by omega))).mono ?_
  rintro e w' ⟨⟨u, rfl⟩, h'⟩
  replace h' := h'.symm
  subst h'
  go_wp2_with fail
  refine (growRanked_nil (HV.out.cell HB3.out (j := 24) (by omega) (by omega) (by omega) (by omega))).mono ?_
  rintro e w' ⟨⟨u, rfl⟩, h'⟩
  replace h' := h'.symm
  subst h'
  go_wp2_with fail
  refine (growAdorned_nil (HV.out.cell HB3.out (j := 25) (by omega) (by omega) (by omega) (by omega))).mono ?_
  rintro e w' ⟨⟨u, rfl⟩, h'⟩
  replace h' := h'.symm
  subst h'
  go_wp2_with fail
  refine (growTable_nil (HV.out.cell HB3.out (j := 26) (by omega) (by omega) (by omega) (by omega))).mono ?_
  rintro e w' ⟨⟨u, rfl⟩, h'⟩
  replace h' := h'.symm
  subst h'
  go_wp2_with fail
  refine (growProof_nil (HV.out.cell HB3.out (j := 27) (by omega) (by omega) (by omega) (by omega))).mono ?_
  rintro e w' ⟨⟨u, rfl⟩, h'⟩
  replace h' := h'.symm
  subst h'
  go_wp2_with fail
  refine (growSize_nil (HV.out.cell HB3.out (j := 28) (by omega) (by omega) (by omega) (by omega))).mono ?_
  rintro e w' ⟨⟨u, rfl⟩, h'⟩
  replace h' := h'.symm
  subst h'
  go_wp2_with fail
  refine (growFloat_nil (HV.out.cell HB3.out (j := 29) (by omega) (by omega) (by omega) (by omega))).mono ?_
  rintro e w' ⟨⟨u, rfl⟩, h'⟩
  replace h' := h'.symm
  subst h'
  go_wp2_with fail
  refine (growCommit_nil (HV.out.cell HB3.out (j := 30) (by omega) (by omega) (by omega) (by omega))).mono ?_
  rintro e w' ⟨⟨u, rfl⟩, h'⟩
  replace h' := h'.symm
  subst h'
  go_wp2_with fail
  refine (growEvent_nil (HV.out.cell HB3.out (j := 31) (by omega) (by omega) (by omega) (by omega))).mono ?_
  rintro e w' ⟨⟨u, rfl⟩, h'⟩
  replace h' := h'.symm
  subst h'
  go_wp2
  go_end0
  obtain ⟨x1, x2, x3, x4, x5, x6, x7⟩ := HX.out
  exact ⟨⟨_, rfl⟩, hi', hr', x1, x2, HB3.out, x3, x4, x5, x6, x7⟩
set_option maxHeartbeats 1600000 in
set_option maxRecDepth 100000 in
theorem apart_any (h : IR B w b n vs hi hr fi fr) (bI : ∀ i, i < hi.length → (fi i).length + 70 ≤ 17592186044416) (bR : ∀ i, i < hr.length → (fr i).length + 70 ≤ 1466015503700) :
    Calls Tryz.prog 13 #[.pointer (some ⟨b, 0, none⟩)] w fun e w' => e = .returned (.bool true) ∧ Only (IRown vs hi hr) w w' := by
  have H := Lib.hid h
  have HV := Lib.hid h.only
  have BI := Lib.hid bI
  have BR := Lib.hid bR
  clear h bI bR
  go_enter Tryz.func13, Tryz.ntmps13
  go_wp2_with fail
  refine (fillValue_nil (HV.out.cell H.out.book (j := 1) (by omega) (by omega) (by omega) (by omega))).mono ?_
  rintro e w' ⟨⟨u, rfl⟩, h'⟩
  replace h' := h'.symm
  subst h'
  go_wp2_with fail
  refine (fillTuple_nil (HV.out.cell H.out.book (j := 2) (by omega) (by omega) (by omega) (by omega))).mono ?_
  rintro e w' ⟨⟨u, rfl⟩, h'⟩
  replace h' := h'.symm
  subst h'
  go_wp2_with fail
  refine (fillFact_nil (HV.out.cell H.out.book (j := 3) (by omega) (by omega) (by omega) (by omega))).mono ?_
  rintro e w' ⟨⟨u, rfl⟩, h'⟩
  replace h' := h'.symm
  subst h'
  go_wp2_with fail
  refine (fillTerm_nil (HV.out.cell H.out.book (j := 4) (by omega) (by omega) (by omega) (by omega))).mono ?_
  rintro e w' ⟨⟨u, rfl⟩, h'⟩
  replace h' := h'.symm
  subst h'
  go_wp2_with fail
  refine (fillExpr_nil (HV.out.cell H.out.book (j := 5) (by omega) (by omega) (by omega) (by omega))).mono ?_
  rintro e w' ⟨⟨u, rfl⟩, h'⟩
  replace h' := h'.symm
  subst h'
  go_wp2_with fail
  refine (fillLiteral_nil (HV.out.cell H.out.book (j := 6) (by omega) (by omega) (by omega) (by omega))).mono ?_
  rintro e w' ⟨⟨u, rfl⟩, h'⟩
  replace h' := h'.symm
  subst h'
  go_wp2_with fail
  refine (fillArg_nil (HV.out.cell H.out.book (j := 7) (by omega) (by omega) (by omega) (by omega))).mono ?_
  rintro e w' ⟨⟨u, rfl⟩, h'⟩
  replace h' := h'.symm
  subst h'
  go_wp2_with fail
  refine (fillRule_nil (HV.out.cell H.out.book (j := 8) (by omega) (by omega) (by omega) (by omega))).mono ?_
  rintro e w' ⟨⟨u, rfl⟩, h'⟩
  replace h' := h'.symm
  subst h'
  go_wp2_with fail
  refine (fillPair_nil (HV.out.cell H.out.book (j := 9) (by omega) (by omega) (by omega) (by omega))).mono ?_
  rintro e w' ⟨⟨u, rfl⟩, h'⟩
  replace h' := h'.symm
  subst h'
  go_wp2_with fail
  refine (fillBind_nil (HV.out.cell H.out.book (j := 10) (by omega) (by omega) (by omega) (by omega))).mono ?_
  rintro e w' ⟨⟨u, rfl⟩, h'⟩
  replace h' := h'.symm
  subst h'
  go_wp2_with fail
  refine (fillBindList_nil (HV.out.cell H.out.book (j := 11) (by omega) (by omega) (by omega) (by omega))).mono ?_
  rintro e w' ⟨⟨u, rfl⟩, h'⟩
  replace h' := h'.symm
  subst h'
  go_wp2_with fail
  refine (fillText_nil (HV.out.cell H.out.book (j := 12) (by omega) (by omega) (by omega) (by omega))).mono ?_
  rintro e w' ⟨⟨u, rfl⟩, h'⟩
  replace h' := h'.symm
  subst h'
  go_wp2_with fail
  refine (fillTextList_nil (HV.out.cell H.out.book (j := 13) (by omega) (by omega) (by omega) (by omega))).mono ?_
  rintro e w' ⟨⟨u, rfl⟩, h'⟩
  replace h' := h'.symm
  subst h'
  go_wp2_with fail
  refine (fillInt_any (H.out.book.cell (j := 14) (by omega) (by omega)) H.out.heldI H.out.listsI (fun hk => H.out.tI hk |>.ne H.out.tB (by decide) rfl) (fun k hk hk2 => (H.out.tHI hk).ne (H.out.tI hk2) (by decide) rfl)).mono ?_
  rintro e w2 ⟨⟨u, rfl⟩, lI2, O2⟩
  have hB2 := H.out.book.only O2 (fun hk => H.out.tI hk |>.ne H.out.tB (by decide) rfl)
  have hI2 := H.out.heldI.only (RH.same _ _) O2 (fun k hk hk2 => (H.out.tHI hk).ne (H.out.tI hk2) (by decide) rfl)
  have hR2 := H.out.heldR.only (RH.same _ _) O2 (fun k hk hk2 => (H.out.tHR hk).ne (H.out.tI hk2) (by decide) rfl)
  have lR2 := H.out.listsR.only RR.same O2 (fun k hk hk2 => (H.out.tR hk).ne (H.out.tI hk2) (by decide) rfl)
  have H2 := Lib.hid (IR.mk hB2 H.out.only hI2 hR2 lI2 lR2 (Nat.le_trans H.out.base O2.size))
  have HO2 := Lib.hid O2
  clear hB2 hI2 hR2 lI2 lR2 O2
  go_wp2_with fail
  refine (fillRow_any (H2.out.book.cell (j := 15) (by omega) (by omega)) H2.out.heldR H2.out.listsR (fun hk => H2.out.tR hk |>.ne H2.out.tB (by decide) rfl) (fun k hk hk2 => (H2.out.tHR hk).ne (H2.out.tR hk2) (by decide) rfl)).mono ?_
  rintro e w3 ⟨⟨u, rfl⟩, lR3, O3⟩
  have hB3 := H2.out.book.only O3 (fun hk => H2.out.tR hk |>.ne H2.out.tB (by decide) rfl)
  have hI3 := H2.out.heldI.only (RH.same _ _) O3 (fun k hk hk2 => (H2.out.tHI hk).ne (H2.out.tR hk2) (by decide) rfl)
  have hR3 := H2.out.heldR.only (RH.same _ _) O3 (fun k hk hk2 => (H2.out.tHR hk).ne (H2.out.tR hk2) (by decide) rfl)
  have lI3 := H2.out.listsI.only RI.same O3 (fun k hk hk2 => (H2.out.tI hk).ne (H2.out.tR hk2) (by decide) rfl)
  have H3 := Lib.hid (IR.mk hB3 H.out.only hI3 hR3 (lI3.cong fun i hi' => mark_cong hi') (lR3.cong fun i hi' => mark_cong hi') (Nat.le_trans H2.out.base O3.size))
  have HO3 := Lib.hid ((HO2.out.mono fun k _ hk => show IRown vs hi hr k from .inl (.inl hk)).trans (O3.mono fun k _ hk => .inr (.inl hk)))
  clear hB3 hI3 hR3 lI3 lR3 O3 H2 HO2
  go_wp2_with fail
  refine (fillToken_nil (HV.out.cell H3.out.book (j := 16) (by omega) (by omega) (by omega) (by omega))).mono ?_
  rintro e w' ⟨⟨u, rfl⟩, h'⟩
  replace h' := h'.symm
  subst h'
  go_wp2_with fail
  refine (fillPred_nil (HV.out.cell H3.out.book (j := 17) (by omega) (by omega) (by omega) (by omega))).mono ?_
  rintro e w' ⟨⟨u, rfl⟩, h'⟩
  replace h' := h'.symm
  subst h'
  go_wp2_with fail
  refine (fillType_nil (HV.out.cell H3.out.book (j := 18) (by omega) (by omega) (by omega) (by omega))).mono ?_
  rintro e w' ⟨⟨u, rfl⟩, h'⟩
  replace h' := h'.symm
  subst h'
  go_wp2_with fail
  refine (fillSig_nil (HV.out.cell H3.out.book (j := 19) (by omega) (by omega) (by omega) (by omega))).mono ?_
  rintro e w' ⟨⟨u, rfl⟩, h'⟩
  replace h' := h'.symm
  subst h'
  go_wp2_with fail
  refine (fillEdge_nil (HV.out.cell H3.out.book (j := 20) (by omega) (by omega) (by omega) (by omega))).mono ?_
  rintro e w' ⟨⟨u, rfl⟩, h'⟩
  replace h' := h'.symm
  subst h'
  go_wp2_with fail
  refine (fillLevel_nil (HV.out.cell H3.out.book (j := 21) (by omega) (by omega) (by omega) (by omega))).mono ?_
  rintro e w' ⟨⟨u, rfl⟩, h'⟩
  replace h' := h'.symm
  subst h'
  go_wp2_with fail
  refine (fillMask_nil (HV.out.cell H3.out.book (j := 22) (by omega) (by omega) (by omega) (by omega))).mono ?_
  rintro e w' ⟨⟨u, rfl⟩, h'⟩
  replace h' := h'.symm
  subst h'
  go_wp2_with fail
  refine (fillStep_nil (HV.out.cell H3.out.book (j := 23) (by omega) (by omega) (by omega) (by omega))).mono ?_
  rintro e w' ⟨⟨u, rfl⟩, h'⟩
  replace h' := h'.symm
  subst h'
  go_wp2_with fail
  refine (fillRanked_nil (HV.out.cell H3.out.book (j := 24) (by omega) (by omega) (by omega) (by omega))).mono ?_
  rintro e w' ⟨⟨u, rfl⟩, h'⟩
  replace h' := h'.symm
  subst h'
  go_wp2_with fail
  refine (fillAdorned_nil (HV.out.cell H3.out.book (j := 25) (by omega) (by omega) (by omega) (by omega))).mono ?_
  rintro e w' ⟨⟨u, rfl⟩, h'⟩
  replace h' := h'.symm
  subst h'
  go_wp2_with fail
  refine (fillTable_nil (HV.out.cell H3.out.book (j := 26) (by omega) (by omega) (by omega) (by omega))).mono ?_
  rintro e w' ⟨⟨u, rfl⟩, h'⟩
  replace h' := h'.symm
  subst h'
  go_wp2_with fail
  refine (fillProof_nil (HV.out.cell H3.out.book (j := 27) (by omega) (by omega) (by omega) (by omega))).mono ?_
  rintro e w' ⟨⟨u, rfl⟩, h'⟩
  replace h' := h'.symm
  subst h'
  go_wp2_with fail
  refine (fillSize_nil (HV.out.cell H3.out.book (j := 28) (by omega) (by omega) (by omega) (by omega))).mono ?_
  rintro e w' ⟨⟨u, rfl⟩, h'⟩
  replace h' := h'.symm
  subst h'
  go_wp2_with fail
  refine (fillFloat_nil (HV.out.cell H3.out.book (j := 29) (by omega) (by omega) (by omega) (by omega))).mono ?_
  rintro e w' ⟨⟨u, rfl⟩, h'⟩
  replace h' := h'.symm
  subst h'
  go_wp2_with fail
  refine (fillCommit_nil (HV.out.cell H3.out.book (j := 30) (by omega) (by omega) (by omega) (by omega))).mono ?_
  rintro e w' ⟨⟨u, rfl⟩, h'⟩
  replace h' := h'.symm
  subst h'
  go_wp2_with fail
  refine (fillEvent_nil (HV.out.cell H3.out.book (j := 31) (by omega) (by omega) (by omega) (by omega))).mono ?_
  rintro e w' ⟨⟨u, rfl⟩, h'⟩
  replace h' := h'.symm
  subst h'
  go_wp2_with fail
  refine (growAll_any H3.out BI.out BR.out).mono ?_
  rintro e w4 ⟨⟨u, rfl⟩, hi', hr', x1, x2, x3, x4, x5, x6, x7, x8⟩
  have HX := Lib.hid (show BookAt 71 w4 b n vs ∧ SlRep 3 maxLen RH w4 (vs 14) hi' ∧ SlRep 3 maxLen RH w4 (vs 15) hr' ∧ Looks 1 RI markI (fun i => (fi i).length) w4 hi' ∧ Looks 24 RR markR (fun i => (fr i).length) w4 hr' from ⟨x3, x4, x5, x6, x7⟩)
  have HO4 := Lib.hid (HO3.out.trans x8)
  have BI' := Lib.hid (fun i (h : i < hi'.length) => BI.out i (by rw [← x1]; exact h))
  have BR' := Lib.hid (fun i (h : i < hr'.length) => BR.out i (by rw [← x2]; exact h))
  clear x1 x2 x3 x4 x5 x6 x7 x8
  go_wp2_with fail
  refine (lookOne_any HX.out.1 HV.out HX.out.2.1 HX.out.2.2.1 HX.out.2.2.2.1 HX.out.2.2.2.2 BI'.out BR'.out).mono ?_
  rintro e w5 ⟨rfl, f5⟩
  have F5 := Lib.hid f5
  clear f5
  go_wp2_with fail
  refine (lookTwo_any (HX.out.1.only (S := fun _ => False) (Only.fut F5.out) (fun h => h)) HV.out (HX.out.2.1.fut RH.stays F5.out) (HX.out.2.2.1.fut RH.stays F5.out) (HX.out.2.2.2.1.fut RI.stays F5.out) (HX.out.2.2.2.2.fut RR.stays F5.out) BI'.out BR'.out).mono ?_
  rintro e w6 ⟨rfl, f6⟩
  have F6 := Lib.hid (F5.out.trans f6)
  clear f6
  go_wp2
  go_ret
  exact ⟨rfl, HO4.out.trans (Only.fut F6.out)⟩
end
end Go.Proofs.YtijdichfaofjaaaGreatDoor
/- The book of numbers and rows: a new one; a list more. -/
namespace Go.Proofs.YtijdichfaofjaaaGreatDoor
open Go.RowKit Go.WideMaps
set_option linter.unusedSimpArgs false
set_option linter.unusedVariables false

def snocF {α : Type} (f : Nat → List α) (m : Nat) (ys : List α) (i : Nat) : List α := if i = m then ys else f i
theorem Lists.snoc {α : Type} {sz B : Nat} {e : TypeId} {R : World → List Value → α → Prop} {w : World} {hs : List Hd} {f : Nat → List α} {h : Hd} {ys : List α} (H : Lists sz B e R w hs f) (hy : OwnL sz B e R w h.l ys) (hap : ∀ k, h.l.ownBlock = some k → ¬ ownsL hs k) : Lists sz B e R w (hs ++ [h]) (snocF f hs.length ys) := by
  have at' : ∀ (i : Nat) (k : Hd), (hs ++ [h])[i]? = some k → (i < hs.length ∧ hs[i]? = some k) ∨ (i = hs.length ∧ k = h) := fun i k hi => by
    by_cases hl : i < hs.length
    · rw [List.getElem?_append_left hl] at hi
      exact .inl ⟨hl, hi⟩
    · rw [List.getElem?_append_right (by omega)] at hi
      have := (List.getElem?_eq_some_iff.1 hi).1
      have e : i = hs.length := by simp at this; omega
      subst e
      simp at hi
      exact .inr ⟨rfl, hi.symm⟩
  refine ⟨fun i k hi => ?_, fun i j k l hi hj hij x hx hy' => ?_⟩
  · unfold snocF
    rcases at' i k hi with ⟨h1, h2⟩ | ⟨rfl, rfl⟩
    · rw [if_neg (by omega)]; exact H.each i k h2
    · rw [if_pos rfl]; exact hy
  · rcases at' i k hi with ⟨h1, h2⟩ | ⟨rfl, rfl⟩
    · rcases at' j l hj with ⟨h3, h4⟩ | ⟨rfl, rfl⟩
      · exact H.apart i j k l h2 h4 hij x hx hy'
      · exact hap x hy' ⟨i, k, h2, hx⟩
    · rcases at' j l hj with ⟨h3, h4⟩ | ⟨rfl, rfl⟩
      · exact hap x hx ⟨j, l, h4, hy'⟩
      · exact hij rfl
theorem ownsL_snoc {hs : List Hd} {h : Hd} {k : Nat} : ownsL (hs ++ [h]) k ↔ ownsL hs k ∨ h.l.ownBlock = some k := by
  constructor
  · rintro ⟨i, x, hi, hk⟩
    by_cases hl : i < hs.length
    · rw [List.getElem?_append_left hl] at hi
      exact .inl ⟨i, x, hi, hk⟩
    · rw [List.getElem?_append_right (by omega)] at hi
      have := (List.getElem?_eq_some_iff.1 hi).1
      have e : i = hs.length := by simp at this; omega
      subst e
      simp at hi
      subst hi
      exact .inr hk
  · rintro (⟨i, x, hi, hk⟩ | hk)
    · have hl := (List.getElem?_eq_some_iff.1 hi).1
      exact ⟨i, x, by rw [List.getElem?_append_left hl]; exact hi, hk⟩
    · exact ⟨hs.length, h, by simp, hk⟩
theorem ownsL_nil {k : Nat} : ¬ ownsL [] k := fun ⟨i, x, hi, _⟩ => by simp at hi
theorem Lists.nil {α : Type} {sz B : Nat} {e : TypeId} {R : World → List Value → α → Prop} {w : World} {f : Nat → List α} : Lists sz B e R w [] f := ⟨fun i h hi => by simp at hi, fun i j h k hi => by simp at hi⟩
theorem book_new {w : World} {b : Nat} {arr : Array Value} (h : w.heap[b]? = some (.cells arr 71 (0, 0))) (ha : arr.toList = .int .i64 0 :: List.replicate 31 (.slice none 0 0)) : BookAt 71 w b 0 (fun _ => .slice none 0 0) := by
  refine ⟨arr, h, ?_, ?_, fun j h1 h2 => ?_⟩
  · have := congrArg List.length ha; simpa using this
  · rw [← Array.getElem?_toList, ha]; rfl
  · obtain ⟨i, rfl⟩ : ∃ i, j = i + 1 := ⟨j - 1, by omega⟩
    rw [← Array.getElem?_toList, ha, List.getElem?_cons_succ, List.getElem?_replicate, if_pos (by omega)]
theorem IR.new {B : Nat} {w : World} {b : Nat} (h : BookAt 71 w b 0 (fun _ => .slice none 0 0)) (hB : B ≤ w.heap.size) (fi : Nat → List Int) (fr : Nat → List Rw) : IR B w b 0 (fun _ => .slice none 0 0) [] [] fi fr :=
  ⟨h, fun _ _ _ => rfl, OwnL.nil, OwnL.nil, Lists.nil, Lists.nil, hB⟩
section
variable {B : Nat} {w w' : World} {b : Nat} {n : Int} {vs : Nat → Value} {hi hr : List Hd} {fi : Nat → List Int} {fr : Nat → List Rw}
theorem IR.fut (h : IR B w b n vs hi hr fi fr) (hf : Fut w w') : IR B w' b n vs hi hr fi fr :=
  ⟨h.book.only (S := fun _ => False) (Only.fut hf) (fun h => h), h.only, h.heldI.fut RH.stays hf, h.heldR.fut RH.stays hf, h.listsI.only RI.same (S := fun _ => False) (Only.fut hf) (fun _ _ h => h), h.listsR.only RR.same (S := fun _ => False) (Only.fut hf) (fun _ _ h => h), Nat.le_trans h.base hf.size⟩
theorem ints_IR (h : IR B w b n vs hi hr fi fr) (hn : 0 ≤ n ∧ n < 1000) (hl : hi.length < 1000) {A : Option Addr} {nl cl : Nat} {ys : List Int} (hv : OwnL 1 B 3 RI w (.slice A nl cl) ys) (hap : ∀ k, (Value.slice A nl cl).ownBlock = some k → ¬ ownsL hi k) :
    Calls Tryz.prog 11 #[.pointer (some ⟨b, 0, none⟩), .slice A nl cl] w fun e w' => (∃ u, e = .returned u) ∧ ∃ vs', IR B w' b (n + 1) vs' (hi ++ [⟨.slice A nl cl, .slice none 0 0, n + 1⟩]) hr (snocF fi hi.length ys) fr ∧
      Only (fun k => k = b ∨ (vs 14).ownBlock = some k) w w' ∧ ∀ j x, (vs' j).ownBlock = some x → (vs j).ownBlock = some x ∨ w.heap.size ≤ x := by
  have nHB : ∀ k, (vs 14).ownBlock = some k → k ≠ b := fun k hk e => (h.tHI hk).ne h.tB (by decide) e
  refine (Ints_any (Al := A) (nl := nl) (cl := cl) h.book hn h.heldI (fun e => nHB b e rfl) h.base hl).mono ?_
  rintro e w' ⟨hu, v', hb, hH, hO, hv'⟩
  have n1 : ∀ k, (vs 15).ownBlock = some k → ¬ (k = b ∨ (vs 14).ownBlock = some k) := fun k hk hS => by
    rcases hS with rfl | hS
    · exact (h.tHR hk).ne h.tB (by decide) rfl
    · exact (h.tHR hk).ne (h.tHI hS) (by decide) rfl
  have n2 : ∀ k, ownsL hi k → ¬ (k = b ∨ (vs 14).ownBlock = some k) := fun k hk hS => by
    rcases hS with rfl | hS
    · exact (h.tI hk).ne h.tB (by decide) rfl
    · exact (h.tI hk).ne (h.tHI hS) (by decide) rfl
  have n3 : ∀ k, ownsL hr k → ¬ (k = b ∨ (vs 14).ownBlock = some k) := fun k hk hS => by
    rcases hS with rfl | hS
    · exact (h.tR hk).ne h.tB (by decide) rfl
    · exact (h.tR hk).ne (h.tHI hS) (by decide) rfl
  have n4 : ∀ k, (Value.slice A nl cl).ownBlock = some k → ¬ (k = b ∨ (vs 14).ownBlock = some k) := fun k hk hS => by
    have ht : Ty w 3 k := hv.typed k hk
    rcases hS with rfl | hS
    · exact ht.ne h.tB (by decide) rfl
    · exact ht.ne (h.tHI hS) (by decide) rfl
  refine ⟨hu, updV vs 14 v', ⟨hb, fun j h1 h2 => by rw [updV_ne h1]; exact h.only j h1 h2, by rw [updV_self]; exact hH, by rw [updV_ne (by decide)]; exact h.heldR.only (RH.same _ _) hO n1,
    (h.listsI.only RI.same hO n2).snoc (h := ⟨.slice A nl cl, .slice none 0 0, n + 1⟩) (hv.only (RI.same _ _) hO n4) hap, h.listsR.only RR.same hO n3, Nat.le_trans h.base hO.size⟩, hO, fun j x hx => ?_⟩
  by_cases hj : j = 14
  · subst hj; rw [updV_self] at hx; exact hv' x hx
  · rw [updV_ne hj] at hx; exact .inl hx
theorem rows_IR (h : IR B w b n vs hi hr fi fr) (hn : 0 ≤ n ∧ n < 1000) (hl : hr.length < 1000) {A : Option Addr} {nl cl : Nat} {ys : List Rw} (hv : OwnL 24 B 27 RR w (.slice A nl cl) ys) (hap : ∀ k, (Value.slice A nl cl).ownBlock = some k → ¬ ownsL hr k) :
    Calls Tryz.prog 12 #[.pointer (some ⟨b, 0, none⟩), .slice A nl cl] w fun e w' => (∃ u, e = .returned u) ∧ ∃ vs', IR B w' b (n + 1) vs' hi (hr ++ [⟨.slice A nl cl, .slice none 0 0, n + 1⟩]) fi (snocF fr hr.length ys) ∧
      Only (fun k => k = b ∨ (vs 15).ownBlock = some k) w w' ∧ ∀ j x, (vs' j).ownBlock = some x → (vs j).ownBlock = some x ∨ w.heap.size ≤ x := by
  have nHB : ∀ k, (vs 15).ownBlock = some k → k ≠ b := fun k hk e => (h.tHR hk).ne h.tB (by decide) e
  refine (Rows_any (Al := A) (nl := nl) (cl := cl) h.book hn h.heldR (fun e => nHB b e rfl) h.base hl).mono ?_
  rintro e w' ⟨hu, v', hb, hH, hO, hv'⟩
  have n1 : ∀ k, (vs 14).ownBlock = some k → ¬ (k = b ∨ (vs 15).ownBlock = some k) := fun k hk hS => by
    rcases hS with rfl | hS
    · exact (h.tHI hk).ne h.tB (by decide) rfl
    · exact (h.tHI hk).ne (h.tHR hS) (by decide) rfl
  have n2 : ∀ k, ownsL hi k → ¬ (k = b ∨ (vs 15).ownBlock = some k) := fun k hk hS => by
    rcases hS with rfl | hS
    · exact (h.tI hk).ne h.tB (by decide) rfl
    · exact (h.tI hk).ne (h.tHR hS) (by decide) rfl
  have n3 : ∀ k, ownsL hr k → ¬ (k = b ∨ (vs 15).ownBlock = some k) := fun k hk hS => by
    rcases hS with rfl | hS
    · exact (h.tR hk).ne h.tB (by decide) rfl
    · exact (h.tR hk).ne (h.tHR hS) (by decide) rfl
  have n4 : ∀ k, (Value.slice A nl cl).ownBlock = some k → ¬ (k = b ∨ (vs 15).ownBlock = some k) := fun k hk hS => by
    have ht : Ty w 27 k := hv.typed k hk
    rcases hS with rfl | hS
    · exact ht.ne h.tB (by decide) rfl
    · exact ht.ne (h.tHR hS) (by decide) rfl
  refine ⟨hu, updV vs 15 v', ⟨hb, fun j h1 h2 => by rw [updV_ne h2]; exact h.only j h1 h2, by rw [updV_ne (by decide)]; exact h.heldI.only (RH.same _ _) hO n1, by rw [updV_self]; exact hH,
    h.listsI.only RI.same hO n2, (h.listsR.only RR.same hO n3).snoc (h := ⟨.slice A nl cl, .slice none 0 0, n + 1⟩) (hv.only (RR.same _ _) hO n4) hap, Nat.le_trans h.base hO.size⟩, hO, fun j x hx => ?_⟩
  by_cases hj : j = 15
  · subst hj; rw [updV_self] at hx; exact hv' x hx
  · rw [updV_ne hj] at hx; exact .inl hx
end
/-- The book in use: what it made lies from its own block on; nothing below has turned since w0. -/
structure Bk (B BN : Nat) (w0 w : World) (n : Int) (vs : Nat → Value) (hi hr : List Hd) (fi : Nat → List Int) (fr : Nat → List Rw) : Prop where
  ir : IR B w BN n vs hi hr fi fr
  low : ∀ j x, (vs j).ownBlock = some x → BN ≤ x
  on : Only (fun k => BN ≤ k) w0 w
section
variable {B BN : Nat} {w0 w w' : World} {n : Int} {vs : Nat → Value} {hi hr : List Hd} {fi : Nat → List Int} {fr : Nat → List Rw}
theorem Bk.ints (h : Bk B BN w0 w n vs hi hr fi fr) (hn : 0 ≤ n ∧ n < 1000) (hl : hi.length < 1000) {A : Option Addr} {nl cl : Nat} {ys : List Int} (hv : OwnL 1 B 3 RI w0 (.slice A nl cl) ys) (hlt : ∀ k, (Value.slice A nl cl).ownBlock = some k → k < BN) (hap : ∀ k, (Value.slice A nl cl).ownBlock = some k → ¬ ownsL hi k) :
    Calls Tryz.prog 11 #[.pointer (some ⟨BN, 0, none⟩), .slice A nl cl] w fun e w' => (∃ u, e = .returned u) ∧ ∃ vs', Bk B BN w0 w' (n + 1) vs' (hi ++ [⟨.slice A nl cl, .slice none 0 0, n + 1⟩]) hr (snocF fi hi.length ys) fr := by
  refine (ints_IR h.ir hn hl (hv.only (RI.same _ _) h.on fun k hk hb => by have := hlt k hk; omega) hap).mono ?_
  rintro e w' ⟨hu, vs', h1, h2, h3⟩
  have hbl := h.ir.book.lt
  exact ⟨hu, vs', h1, fun j x hx => by
    rcases h3 j x hx with h4 | h4
    · exact h.low j x h4
    · omega, h.on.trans (h2.mono fun k _ hk => by
    rcases hk with rfl | hk
    · exact Nat.le_refl _
    · exact h.low 14 k hk)⟩
theorem Bk.rows (h : Bk B BN w0 w n vs hi hr fi fr) (hn : 0 ≤ n ∧ n < 1000) (hl : hr.length < 1000) {A : Option Addr} {nl cl : Nat} {ys : List Rw} (hv : OwnL 24 B 27 RR w0 (.slice A nl cl) ys) (hlt : ∀ k, (Value.slice A nl cl).ownBlock = some k → k < BN) (hap : ∀ k, (Value.slice A nl cl).ownBlock = some k → ¬ ownsL hr k) :
    Calls Tryz.prog 12 #[.pointer (some ⟨BN, 0, none⟩), .slice A nl cl] w fun e w' => (∃ u, e = .returned u) ∧ ∃ vs', Bk B BN w0 w' (n + 1) vs' hi (hr ++ [⟨.slice A nl cl, .slice none 0 0, n + 1⟩]) fi (snocF fr hr.length ys) := by
  refine (rows_IR h.ir hn hl (hv.only (RR.same _ _) h.on fun k hk hb => by have := hlt k hk; omega) hap).mono ?_
  rintro e w' ⟨hu, vs', h1, h2, h3⟩
  have hbl := h.ir.book.lt
  exact ⟨hu, vs', h1, fun j x hx => by
    rcases h3 j x hx with h4 | h4
    · exact h.low j x h4
    · omega, h.on.trans (h2.mono fun k _ hk => by
    rcases hk with rfl | hk
    · exact Nat.le_refl _
    · exact h.low 15 k hk)⟩
end
end Go.Proofs.YtijdichfaofjaaaGreatDoor
