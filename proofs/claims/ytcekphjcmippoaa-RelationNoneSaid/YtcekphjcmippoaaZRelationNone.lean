/- RelNone, RelationNone -/
import Derived.Test.YtcekphjcmippoaaC22
/- RelationNone: the walk. -/
namespace Go.Proofs.Ytcekphjcmippoaa
open Go.RowKit Go.WideMaps
set_option linter.unusedSimpArgs false
set_option linter.unusedVariables false

def relCells : Array Value := #[.int .i64 0, .int .i64 0, .pointer none]
theorem exec_build_rel {op : Oper} {a : Act} {w : World} (ho : op.op = .build 73 #[]) : (execOp a.eval op).run Try.prog w = .ok (.value (.agg relCells)) w := by
  have hr : (Instr.build 73 #[]).run Try.prog w = .ok (.agg relCells) w := by kernel_rfl
  unfold execOp
  simp only [ho, List.map_toArray, List.map_nil, hr, Sem.run_bind, Sem.run_pure, Result.andThen_ok]
/-- No relation there, in a both of its own. -/
theorem both_none {B : Nat} {w : World} {b : Nat} {p : Option Addr} {F : Nat → Prop} (hb : w.heap[b]? = some (.cells (bothCells p none) 60 (0, 0))) (hT : TNone w p) (hp : ∀ k, p = some ⟨k, 0, none⟩ → F k) (hF : ∀ k, F k → k < w.heap.size) (hn : ¬ F b) (hB : B ≤ w.heap.size) :
    BothAt B w b 0 none F p none .nilFunc 0 0 F (fun _ => False) :=
  ⟨⟨_, _, hb, rfl, rfl, rfl, rfl, rfl⟩, ⟨⟨hT, hp⟩, hF⟩, ⟨rfl, fun k hk => hk.elim⟩, fun k hk => hk, fun k hk => hk.elim, fun k _ hk => hk, hn, hF, hB, .inl rfl⟩
set_option maxHeartbeats 3200000 in
set_option maxRecDepth 100000 in
theorem none_walk (w : World) (o : OpL) (ho : o.ok) : Calls Try.prog 7 #[o.val] w fun e w' => e = .returned (.bool true) ∧ Fut w w' := by
  have hro := ho.row
  have F1 := Fut.alloc w (.cells o.cells.toArray 67)
  have F2 := Fut.alloc (w.alloc (.cells o.cells.toArray 67)) (.cells #[Value.pointer none, Value.pointer none, Value.nilFunc, Value.int .i64 0, Value.int .i64 0] 60)
  have F3 := Fut.alloc ((w.alloc (.cells o.cells.toArray 67)).alloc (.cells #[Value.pointer none, Value.pointer none, Value.nilFunc, Value.int .i64 0, Value.int .i64 0] 60)) (.cells relCells 73)
  have F4 := Fut.alloc (((w.alloc (.cells o.cells.toArray 67)).alloc (.cells #[Value.pointer none, Value.pointer none, Value.nilFunc, Value.int .i64 0, Value.int .i64 0] 60)).alloc (.cells relCells 73)) (.cells #[Value.pointer (some ⟨w.heap.size + 1 + 1, 0, none⟩), Value.pointer none, Value.nilFunc, Value.int .i64 0, Value.int .i64 0] 60)
  have hop4 := (((OpAt.new w 67 o).fut F2).fut F3).fut F4
  have z1 : (w.alloc (.cells o.cells.toArray 67)).heap.size = w.heap.size + 1 := by simp
  have z2 : ((w.alloc (.cells o.cells.toArray 67)).alloc (.cells #[Value.pointer none, Value.pointer none, Value.nilFunc, Value.int .i64 0, Value.int .i64 0] 60)).heap.size = w.heap.size + 1 + 1 := by simp
  have z3 : (((w.alloc (.cells o.cells.toArray 67)).alloc (.cells #[Value.pointer none, Value.pointer none, Value.nilFunc, Value.int .i64 0, Value.int .i64 0] 60)).alloc (.cells relCells 73)).heap.size = w.heap.size + 1 + 1 + 1 := by simp
  have z4 : ((((w.alloc (.cells o.cells.toArray 67)).alloc (.cells #[Value.pointer none, Value.pointer none, Value.nilFunc, Value.int .i64 0, Value.int .i64 0] 60)).alloc (.cells relCells 73)).alloc (.cells #[Value.pointer (some ⟨w.heap.size + 1 + 1, 0, none⟩), Value.pointer none, Value.nilFunc, Value.int .i64 0, Value.int .i64 0] 60)).heap.size = w.heap.size + 4 := by simp
  have b1 := heap_alloc_new (w.alloc (.cells o.cells.toArray 67)) (.cells #[Value.pointer none, Value.pointer none, Value.nilFunc, Value.int .i64 0, Value.int .i64 0] 60)
  rw [z1] at b1
  have b2 := heap_alloc_new ((w.alloc (.cells o.cells.toArray 67)).alloc (.cells #[Value.pointer none, Value.pointer none, Value.nilFunc, Value.int .i64 0, Value.int .i64 0] 60)) (.cells relCells 73)
  rw [z2] at b2
  have b3 := heap_alloc_new (((w.alloc (.cells o.cells.toArray 67)).alloc (.cells #[Value.pointer none, Value.pointer none, Value.nilFunc, Value.int .i64 0, Value.int .i64 0] 60)).alloc (.cells relCells 73)) (.cells #[Value.pointer (some ⟨w.heap.size + 1 + 1, 0, none⟩), Value.pointer none, Value.nilFunc, Value.int .i64 0, Value.int .i64 0] 60)
  rw [z3] at b3
  have F04 := Lib.hid (((F1.trans F2).trans F3).trans F4)
  have HA := Lib.hid (both_none (B := w.heap.size) (p := none) (F := fun _ => False) (F4.block (F3.block b1)) (.inl rfl) (fun k hk => by cases hk) (fun k hk => hk.elim) (fun h => h) (by omega))
  have HB := Lib.hid (both_none (B := w.heap.size) (p := some ⟨w.heap.size + 1 + 1, 0, none⟩) (F := fun k => k = w.heap.size + 1 + 1) b3 (.inr ⟨_, rfl, F4.block b2⟩) (fun k hk => by injection hk with hk; injection hk with hk; exact hk.symm) (fun k hk => by have hk' : k = w.heap.size + 1 + 1 := hk; omega) (by show ¬ w.heap.size + 1 + 1 + 1 = w.heap.size + 1 + 1; omega) (by omega))
  have HD := Lib.hid (cell_at b3 0 (.pointer (some ⟨w.heap.size + 1 + 1, 0, none⟩)) rfl)
  have zl := z4
  clear F1 F2 F3 F4 z1 z2 z3 z4 b1 b2 b3
  unfold OpL.val
  go_enter Try.func7, Try.ntmps7
  go_wp2_with (first | (refine wpList_of_run (wanted_none rfl _) (exec_build_rel rfl) ?_) | (refine wpList_of_run (wanted_none rfl _) (exec_load_Op _ rfl rfl hop4 hro) ?_))
  obtain ⟨w4, hw4⟩ : ∃ W, ((((w.alloc (.cells o.cells.toArray 67)).alloc (.cells #[Value.pointer none, Value.pointer none, Value.nilFunc, Value.int .i64 0, Value.int .i64 0] 60)).alloc (.cells relCells 73)).alloc (.cells #[Value.pointer (some ⟨w.heap.size + 1 + 1, 0, none⟩), Value.pointer none, Value.nilFunc, Value.int .i64 0, Value.int .i64 0] 60)) = W := ⟨_, rfl⟩
  rw [hw4] at hop4 F04 HA HB HD zl ⊢
  clear hw4
  have ZL := Lib.hid zl
  clear zl
  have amid0 : o.kind = 9 → ∀ {B : Nat} {bb off : Nat} {O FT FD : Nat → Prop} {p q : Option Addr} W kv' f' t', BothAt B W bb off none O p q kv' f' t' FT FD → Calls Try.prog 64 #[.pointer (some ⟨bb, off, none⟩), o.val] W (Did B W bb off none O p q) := by
    intro hk B bb off O FT FD p q W kv' f' t' h
    refine (amid_none h rfl o ho).mono ?_
    rintro e w' ⟨rfl, hf⟩
    exact did_same h hf
  refine (does_all HA.out (by simp [rowsS]) (by simp [goneS]) o ho fun hk W kv' f' t' h => amid0 hk W kv' f' t' h).mono ?_
  rintro e w5 ⟨rfl, S1, O1, kv1, f1, t1, FT1, FD1, hA5, -, -, hn1, hO1, hOn1, -⟩
  obtain rfl := hn1 rfl
  have s5 := hOn1.size
  replace hOn1 : Only (fun k => k = w.heap.size + 1) w4 w5 := hOn1.mono fun k _ hk => hk.elim (fun h => h.elim) id
  have hop5 := hop4.only hOn1 (by show ¬ (w.heap.size = w.heap.size + 1); omega)
  have HB5 := Lib.hid (HB.out.only hOn1 (fun k hk hn => by have hk' : k = w.heap.size + 1 + 1 := hk; have hn' : k = w.heap.size + 1 := hn; omega) (by show ¬ (w.heap.size + 1 + 1 + 1 = w.heap.size + 1); omega))
  have HA5 := Lib.hid hA5
  have hO5 : ∀ k, O1 k → w.heap.size + 4 ≤ k := fun k hk => (hO1 k hk).elim (fun h => h.elim) fun h => by have := ZL.out; omega
  have F5 := Lib.hid (((Only.fut F04.out).then (hOn1) (S := fun k => w.heap.size ≤ k) fun k hk _ => by have hk' : k = w.heap.size + 1 := hk; omega).toFut fun k hk => hk)
  have hw5 : w.heap.size + 4 ≤ w5.heap.size := by have := ZL.out; omega
  clear hop4 HA HB HD hA5 hOn1 F04 hO1
  go_wp2_with (first | (refine wpList_of_run (by go_simp) (exec_load_Op _ rfl rfl hop5 hro) ?_))
  refine (does_all HB5.out (by simp [rowsS]) (by simp [goneS]) o ho fun hk W kv' f' t' h => amid0 hk W kv' f' t' h).mono ?_
  rintro e w6 ⟨rfl, S2, O2, kv2, f2, t2, FT2, FD2, hB6, -, -, hn2, hO2, hOn2, -⟩
  obtain rfl := hn2 rfl
  have HA6 := Lib.hid (HA5.out.only hOn2 (fun k hk hn => by have hn' : k = w.heap.size + 1 + 1 ∨ k = w.heap.size + 1 + 1 + 1 := hn; have := hO5 k hk; omega) (by show ¬ (w.heap.size + 1 = w.heap.size + 1 + 1 ∨ w.heap.size + 1 = w.heap.size + 1 + 1 + 1); omega))
  have HB6 := Lib.hid hB6
  have F6 := Lib.hid (((Only.fut F5.out).then (hOn2) (S := fun k => w.heap.size ≤ k) fun k hk _ => by have hk' : k = w.heap.size + 1 + 1 ∨ k = w.heap.size + 1 + 1 + 1 := hk; omega).toFut fun k hk => hk)
  clear hop5 HA5 HB5 hB6 hOn2 F5 hO2 hO5 amid0
  go_wp2_with fail
  refine (whole_any HA6.out (by simp [rowsS])).mono ?_
  rintro e w7 ⟨rfl, hf7⟩
  go_wp2_with fail
  refine (whole_any (HB6.out.fut hf7) (by simp [rowsS])).mono ?_
  rintro e w8 ⟨rfl, hf8⟩
  have HB8 := Lib.hid (HB6.out.fut (hf7.trans hf8))
  have d0 := HB8.out.cell.1
  have F8 := Lib.hid (F6.out.trans (hf7.trans hf8))
  clear hf7 hf8 HA6 HB6 F6
  go_wp2_with fail
  refine (clone_none (.inl rfl)).mono ?_
  rintro e w9 ⟨rfl, h9⟩
  subst h9
  go_wp2_with fail
  refine (clone_none HB8.out.T.holds.1).mono ?_
  rintro e w10 ⟨rfl, h10⟩
  subst h10
  go_wp2_with fail
  refine (lives10 _).mono ?_
  rintro e w11 ⟨rfl, hf11⟩
  go_wp2
  go_ret
  exact ⟨rfl, F8.out.trans hf11⟩
end Go.Proofs.Ytcekphjcmippoaa
/- RelationNone: a relation that is not there, under any call. -/
namespace Go.Proofs.Ytcekphjcmippoaa
open Go.RowKit Go.WideMaps Go.ChangeShapes Go.WideShapes Go.ChangeAt Go.Deep
set_option linter.unusedSimpArgs false
set_option linter.unusedVariables false
set_option maxRecDepth 100000

theorem RelationNone_own : ownKnob Try.prog.godebug = none := by kernel_rfl
theorem RelationNone_laidOut : laidOutB Try.prog = true := by kernel_rfl
theorem RelationNone_row_walk {H : Type} {enc : TypeId × Value → H} (W : World) (base : Nat) (args : Array Value) (ds : List (DataW H)) (p : List MemPlace)
    (hval : ∀ (j : Nat) t v, (#[67] : Array Nat)[j]? = some t → args[j]? = some v → Value.okWide Try.prog W .any base t v)
    (hA : DataW.TrodAll enc Try.prog W 0 (fun _ => true) true [67] args.toList ds p) (hS : (DataW.weightsEach Try.prog [67] ds).all (fun n => decide (n ≤ reachBytes)) = true) :
    Calls Try.prog 7 args W fun e W' => e = .returned (.bool true) ∧ Fut W W' := by
  obtain ⟨v0, vs0, d0, ds0, p0, q0, hargs, rfl, rfl, h0, r0⟩ := trodAll_cons hA
  obtain ⟨rfl, rfl, rfl⟩ := trodAll_nil r0
  obtain rfl : args = #[v0] := by cases args; simp_all
  have k0 := hval 0 67 v0 rfl rfl
  have s0 := weights_arg hS 0 rfl rfl
  clear hval hA hS
  obtain ⟨o, e, ho⟩ := reads_arg rOp h0 s0
  obtain ⟨cs, rfl⟩ := arg_struct Try.underlying67 k0
  obtain ⟨cs⟩ := cs
  have e' : cs = o.cells := by simpa [Value.cells] using e
  subst e'
  exact none_walk W o ho
set_option maxRecDepth 100000 in
theorem RelationNone_lifted (os : Os) (started : os.Started) (H : Type) (enc : TypeId × Value → H) :
    ReturnsInHanded {} Try.checked os 7 .any (Rows.relationNoneSpec.pre6 enc Try.prog Try.f7 Rows.relationNoneRow.domain false) (Rows.relationNoneSpec.post enc Try.prog Try.f7 false true false false) := by
  refine returnsInHanded_of_change_sized (C := Try.checked) RelationNone_own started (by kernel_rfl) Try.func7
    (ChangeSpec.witness6 (enc := enc) (C := Try.checked) false ⟨#[], #[zeroOp.val], []⟩ 8 (by kernel_rfl) (by kernel_rfl) (by kernel_rfl) (by kernel_rfl)) ?_
  intro W base args ds gs before hval0 hW _ hsz _
  have hW' := hW
  obtain ⟨p, q, hA0, hV, rfl, _, _⟩ := hW
  have hA : DataW.TrodAll enc Try.prog W 0 (fun _ => true) true [67] args.toList ds p := hA0
  obtain ⟨rfl, rfl⟩ := trodVars_none hV
  rw [List.append_nil] at hsz
  refine (RelationNone_row_walk W base args ds p hval0 hA hsz).mono fun e W' ⟨he, hf⟩ => ?_
  subst he
  obtain ⟨v0, vs0, d0, ds0, p0, q0, _, rfl, _, _, r0⟩ := trodAll_cons hA
  obtain ⟨_, rfl, _⟩ := trodAll_nil r0
  exact ⟨_, rfl, law_post (tb := 4) RelationNone_laidOut hW' rfl (by kernel_rfl) rfl Try.underlying4 rfl rfl rfl hf⟩
theorem RelationNone_holds : Rows.RelationNoneSaid :=
  OpenClaim.holds_of_wide 7 Try.f7 rfl rfl rfl rfl rfl rfl rfl ⟨rfl, rfl, rfl, rfl, rfl⟩ rfl rfl rfl rfl rfl (by kernel_rfl) Try.func7 (by kernel_rfl)
    (of_decide_eq_true (by kernel_rfl)) (by unfold Func.isWrapper; first | (rw [if_pos (by decide +kernel)]; kernel_rfl) | (rw [if_neg (by decide +kernel)]; exact ⟨rfl, rfl⟩))
    (fun os started H enc _ => RelationNone_lifted os started H enc)
#print axioms RelationNone_holds
end Go.Proofs.Ytcekphjcmippoaa
