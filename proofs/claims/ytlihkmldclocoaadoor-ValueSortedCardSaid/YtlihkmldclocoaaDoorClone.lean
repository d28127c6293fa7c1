/- slices.Clone, of values, of tuples, of facts: a list of the call's own of the same elements. -/
import Derived.Test.YtlihkmldclocoaaDoorTwinE
import Derived.Test.YtlihkmldclocoaaDoorTwin
import Derived.Lib.SliceRun
namespace Go.Proofs.YtlihkmldclocoaaDoor
open Go.RowKit
set_option linter.unusedSimpArgs false
set_option linter.unusedVariables false

theorem infoT : (Tryd.prog.info? 24).map (fun i => (i.zero, i.size, i.bytes)) = some (some (.slice none 0 0), 1, 24) := by kernel_rfl
theorem infoG : (Tryd.prog.info? 54).map (fun i => (i.zero, i.size, i.bytes)) = some (some (.agg #[.string ⟨#[]⟩, .slice none 0 0]), 2, 40) := by kernel_rfl
theorem SlRep.const {α : Type} {sz M : Nat} {R : World → List Value → α → Prop} {w w' : World} {v : Value} {xs : List α} (h : SlRep sz M R w v xs) (hf : Fut w w') : SlRep sz M (fun _ => R w) w' v xs := by
  obtain ⟨A, cap, hv, h1, h2, h3⟩ := h
  refine ⟨A, cap, hv, h1, h2, fun i x hx => ?_⟩
  obtain ⟨b, off, cs, hA, hl, hc, hr⟩ := h3 i x hx
  exact ⟨b, off, cs, hA, hl, fun j c hj => hf.cell (hc j c hj), hr⟩
theorem own_made {α : Type} {sz B : Nat} {e : TypeId} {R : World → List Value → α → Prop} (w : World) (hB : B ≤ w.heap.size) : OwnL sz B e R (w.alloc (.cells #[] e)) (.slice (some ⟨w.heap.size, 0, none⟩) 0 0) [] :=
  ⟨[], rfl, fun i cs x hi => by simp at hi, World.ownsRow_made w #[] 0 hB (Nat.zero_le _) (by simp)⟩
theorem SlRep.empty {α : Type} {sz M : Nat} {R : World → List Value → α → Prop} {w : World} {n cap : Nat} {xs : List α} (h : SlRep sz M R w (.slice none n cap) xs) : xs = [] := by
  obtain ⟨A, cap', hv, _, _, hx⟩ := h
  cases xs with
  | nil => rfl
  | cons y r =>
    obtain ⟨_, _, _, hA, _⟩ := hx 0 y rfl
    injection hv with e1
    rw [← e1] at hA; cases hA

set_option maxHeartbeats 800000 in
set_option maxRecDepth 100000 in
theorem clone_V (a : Value) (xs : List (V)) (w : World) (ha : SlRep 3 9223372036854775807 RV w a xs) (hb : xs.length ≤ 4398046511104) :
    Calls Tryd.prog 62 #[a] w fun e w' => ∃ v, e = .returned v ∧ OwnL 3 w.heap.size 27 (fun _ => RV w) w' v xs ∧ Fut w w' := by
  obtain ⟨A, cap, rfl, hl, hm⟩ := SlRep.form ha
  have q22 : ∀ (w : World) (a : Option Addr) (n c n' c' : Nat), (binOp .eql 24 (.slice a n c) (.slice none n' c')).run Tryd.prog w = .ok (.bool a.isNone) w := fun w a n c n' c' => Lib.run_eql_slice_nil w _ _ a n c n' c' Tryd.underlying24
  cases A with
  | none =>
    obtain rfl := ha.empty
    clear ha
    go_enter Tryd.func62, Tryd.ntmps62
    go_wp2
    go_ret
    exact ⟨_, rfl, OwnL.nil, Fut.refl _⟩
  | some p =>
    have HA := Lib.hid ha
    clear ha
    go_enter Tryd.func62, Tryd.ntmps62
    go_wp2_with (at_builtin; go_loud (refine wpList_append_L (R := fun _ => RV w) (B := w.heap.size) (xs := []) (ys := xs) (e := 27) (by go_simp) _ _ 24 rfl Tryd.underlying24 (.agg #[.int .i8 0, .int .i64 0, .string ⟨#[]⟩]) 32 infoV rfl (by decide) (fun _ => RV.one w) (const_keeps w) rfl rfl (own_made w (Nat.le_refl _)) (HA.out.const (Fut.alloc _ _)) ?l1 ?l2 ?b1 ?k1))
    case l1 => simp [maxLen]; omega
    case l2 => simp; omega
    case b1 => simp
    case k1 =>
    intro v' w' o' g'
    have F' := Lib.hid (Fut.grown (Fut.alloc w (.cells #[] 27)) g' (fun k hk => by simp [Value.ownBlock] at hk; omega))
    have O' := Lib.hid o'
    clear g' o'
    go_wp2
    go_ret
    exact ⟨_, rfl, O'.out, F'.out⟩
set_option maxHeartbeats 800000 in
set_option maxRecDepth 100000 in
theorem clone_T (a : Value) (xs : List (List V)) (w : World) (ha : SlRep 1 9223372036854775807 RT w a xs) (hb : xs.length ≤ 4398046511104) :
    Calls Tryd.prog 59 #[a] w fun e w' => ∃ v, e = .returned v ∧ OwnL 1 w.heap.size 24 (fun _ => RT w) w' v xs ∧ Fut w w' := by
  obtain ⟨A, cap, rfl, hl, hm⟩ := SlRep.form ha
  have q22 : ∀ (w : World) (a : Option Addr) (n c n' c' : Nat), (binOp .eql 43 (.slice a n c) (.slice none n' c')).run Tryd.prog w = .ok (.bool a.isNone) w := fun w a n c n' c' => Lib.run_eql_slice_nil w _ _ a n c n' c' Tryd.underlying43
  cases A with
  | none =>
    obtain rfl := ha.empty
    clear ha
    go_enter Tryd.func59, Tryd.ntmps59
    go_wp2
    go_ret
    exact ⟨_, rfl, OwnL.nil, Fut.refl _⟩
  | some p =>
    have HA := Lib.hid ha
    clear ha
    go_enter Tryd.func59, Tryd.ntmps59
    go_wp2_with (at_builtin; go_loud (refine wpList_append_L (R := fun _ => RT w) (B := w.heap.size) (xs := []) (ys := xs) (e := 24) (by go_simp) _ _ 43 rfl Tryd.underlying43 (.slice none 0 0) 24 infoT rfl (by decide) (fun _ => RT.one w) (const_keeps w) rfl rfl (own_made w (Nat.le_refl _)) (HA.out.const (Fut.alloc _ _)) ?l1 ?l2 ?b1 ?k1))
    case l1 => simp [maxLen]; omega
    case l2 => simp; omega
    case b1 => simp
    case k1 =>
    intro v' w' o' g'
    have F' := Lib.hid (Fut.grown (Fut.alloc w (.cells #[] 24)) g' (fun k hk => by simp [Value.ownBlock] at hk; omega))
    have O' := Lib.hid o'
    clear g' o'
    go_wp2
    go_ret
    exact ⟨_, rfl, O'.out, F'.out⟩
set_option maxHeartbeats 800000 in
set_option maxRecDepth 100000 in
theorem clone_G (a : Value) (xs : List (Fc)) (w : World) (ha : SlRep 2 9223372036854775807 RG w a xs) (hb : xs.length ≤ 3298534883328) :
    Calls Tryd.prog 65 #[a] w fun e w' => ∃ v, e = .returned v ∧ OwnL 2 w.heap.size 54 (fun _ => RG w) w' v xs ∧ Fut w w' := by
  obtain ⟨A, cap, rfl, hl, hm⟩ := SlRep.form ha
  have q22 : ∀ (w : World) (a : Option Addr) (n c n' c' : Nat), (binOp .eql 44 (.slice a n c) (.slice none n' c')).run Tryd.prog w = .ok (.bool a.isNone) w := fun w a n c n' c' => Lib.run_eql_slice_nil w _ _ a n c n' c' Tryd.underlying44
  cases A with
  | none =>
    obtain rfl := ha.empty
    clear ha
    go_enter Tryd.func65, Tryd.ntmps65
    go_wp2
    go_ret
    exact ⟨_, rfl, OwnL.nil, Fut.refl _⟩
  | some p =>
    have HA := Lib.hid ha
    clear ha
    go_enter Tryd.func65, Tryd.ntmps65
    go_wp2_with (at_builtin; go_loud (refine wpList_append_L (R := fun _ => RG w) (B := w.heap.size) (xs := []) (ys := xs) (e := 54) (by go_simp) _ _ 44 rfl Tryd.underlying44 (.agg #[.string ⟨#[]⟩, .slice none 0 0]) 40 infoG rfl (by decide) (fun _ => RG.one w) (const_keeps w) rfl rfl (own_made w (Nat.le_refl _)) (HA.out.const (Fut.alloc _ _)) ?l1 ?l2 ?b1 ?k1))
    case l1 => simp [maxLen]; omega
    case l2 => simp; omega
    case b1 => simp
    case k1 =>
    intro v' w' o' g'
    have F' := Lib.hid (Fut.grown (Fut.alloc w (.cells #[] 54)) g' (fun k hk => by simp [Value.ownBlock] at hk; omega))
    have O' := Lib.hid o'
    clear g' o'
    go_wp2
    go_ret
    exact ⟨_, rfl, O'.out, F'.out⟩
end Go.Proofs.YtlihkmldclocoaaDoor
