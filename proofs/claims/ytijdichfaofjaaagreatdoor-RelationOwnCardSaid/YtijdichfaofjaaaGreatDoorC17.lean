/- SortR, SortLayR, RangeIf, RelY, RelZ, ResB, RelPicks, Same, RefA, RefB, RefC, RefD, Numb, RefE -/
import Derived.Shelf.SlSortCmp.WholeK
import Derived.Shelf.SlSortCmp.Whole1
import Derived.Ground.SlsfProg
import Derived.Test.YtijdichfaofjaaaGreatDoorProg
import Derived.Shelf.SlSortCmp.NoneTotal
import Derived.Test.YtijdichfaofjaaaGreatDoorC16
/- slices.SortFunc of a list of rows: what the row holds behind it. Generic in the program. -/
namespace Go.Proofs.YtijdichfaofjaaaGreatDoor
open Go.RowKit Go.Sort Go.Shelf Go.WideMaps
set_option linter.unusedSimpArgs false
set_option linter.unusedVariables false

theorem ownR_row {B : Nat} {e : TypeId} {w : World} {v : Value} {xs : List Rw} (h : OwnL 24 B e RR w v xs) (hne : xs ≠ []) :
    ∃ g cap, ∃ css : List (List Value), v = .slice (some ⟨g, 0, none⟩) xs.length cap ∧ xs.length ≤ cap ∧ cap ≤ maxLen ∧ B ≤ g ∧ g < w.heap.size ∧ css.length = xs.length ∧ (∀ (i : Nat) (cs : List Value) (x : Rw), css[i]? = some cs → xs[i]? = some x → cs.length = 24 ∧ RR w cs x) ∧
      (∀ j u, css.flatten[j]? = some u → w.cell? ⟨g, j, none⟩ = some u ∧ w.frozen? ⟨g, j, none⟩ = false) := by
  obtain ⟨css, h1, h2, h3, h4⟩ := h
  rcases h4 with ⟨_, h5⟩ | ⟨g, cap, cur, rfl, a2, a3, a4, a5, a6, a7⟩
  · exact absurd (List.length_eq_zero_iff.1 h5) hne
  · refine ⟨g, cap, css, rfl, a4, a5, a2, lt_of_block a3, h1, h2, fun j u hj => ⟨?_, by simp [World.frozen?, a3]⟩⟩
    rw [← a7, List.getElem?_take] at hj
    split at hj
    · simp [World.cell?, a3]; simpa using hj
    · cases hj
theorem totR : TotC cmpR := ⟨ordR.zero, ordR.swap, fun x y z h1 h2 => ordR.lt h1 (by omega)⟩
theorem pull_swoR {α : Type} (f : α → Rw) : SWO (ltOf fun x y : α => cmpR (f x) (f y)) where
  irrefl x := totR.swo.irrefl (f x)
  trans x y z := totR.swo.trans (f x) (f y) (f z)
  ntrans x y z := totR.swo.ntrans (f x) (f y) (f z)
abbrev RwOk : Type := {x : Rw // Rw.ok x}
def encR (x : RwOk) : List Value := Rw.cells x.1
theorem encR_len (x : RwOk) : (encR x).length = 24 := Rw.cells_len x.2
theorem encR_one (x : RwOk) : ∀ v ∈ encR x, v.oneCell' = true := fun v hv => by
  unfold encR Rw.cells at hv
  rw [List.mem_map] at hv
  obtain ⟨a, _, rfl⟩ := hv
  rfl
instance : Inhabited RwOk := ⟨⟨zeroRow, zeroRow_ok⟩⟩

theorem sortK_block {α : Type} [Inhabited α] {enc : α → List Value} {k : Nat} {w : World} {blk m : Nat} {d : Array α} {os : Array Obj} {cur : Array Value} {t : TypeId} {fr : Nat × Nat} (hb : w.heap[blk]? = some (.cells cur t fr)) :
    (sortWorldK enc k w blk 0 m d os).heap[blk]? = some (.cells (putCells id 0 (flatK enc k d) cur) t fr) := by
  have hlt := lt_of_block hb
  unfold sortWorldK putRowK putRow
  rw [heap_grow_old _ _ (by simp [mapBlock, Sort.ahead]; exact hlt)]
  simp [mapBlock, Sort.ahead, Array.getElem?_modify, hb, onCells]
/-- The rows sorted are rows of the call's own. -/
theorem own_sorted {B : Nat} {e : TypeId} {w : World} {blk cap m : Nat} {os : Array Obj} {ts : List Rw} (h : OwnL 24 B e RR w (.slice (some ⟨blk, 0, none⟩) ts.length cap) ts) (d : Array RwOk) (hd : d.size = ts.length) :
    OwnL 24 B e RR (sortWorldK encR 24 w blk 0 m d os) (.slice (some ⟨blk, 0, none⟩) ts.length cap) (d.toList.map fun q => q.1) := by
  obtain ⟨css, h1, h2, h3, h4⟩ := h
  have hcs : ∀ (i : Nat) (cs : List Value), (d.toList.map encR)[i]? = some cs → cs.length = 24 := fun i cs hi => by
    rw [List.getElem?_map] at hi
    cases hx : d.toList[i]? with
    | none => rw [hx] at hi; cases hi
    | some q => rw [hx] at hi; injection hi with hi; rw [← hi]; exact encR_len q
  have hfl : (d.toList.map encR).flatten.length = ts.length * 24 := by rw [flatten_len hcs]; simp [hd]
  have hml : (d.toList.map fun q => q.1).length = ts.length := by simp [hd]
  refine ⟨d.toList.map encR, by simp, fun i cs x hi hx => ⟨hcs i cs hi, ?_⟩, by rw [hml]; exact hfl, ?_⟩
  · rw [List.getElem?_map] at hi hx
    cases hq : d.toList[i]? with
    | none => rw [hq] at hi; cases hi
    | some q =>
      rw [hq] at hi hx
      injection hi with hi
      injection hx with hx
      rw [← hi, ← hx]
      exact ⟨rfl, q.2⟩
  · rcases h4 with ⟨h4, _⟩ | ⟨g0, cap0, cur, hv, a2, a3, a4, a5, a6, a7⟩
    · cases h4
    injection hv with hv1 hv2 hv3
    injection hv1 with hv1
    injection hv1 with hv4 hv5
    subst hv3 hv4
    rw [hml]
    refine .inr ⟨blk, cap, _, rfl, a2, sortK_block a3, a4, a5, by simpa [putCells] using a6, ?_⟩
    have hle : ts.length * 24 ≤ cur.size := by rw [a6]; exact Nat.mul_le_mul_right _ a4
    refine List.ext_getElem? fun j => ?_
    rw [List.getElem?_take]
    by_cases hj : j < ts.length * 24
    · rw [if_pos hj, Array.getElem?_toList]
      have hjd : j < d.size * 24 := by rw [hd]; exact hj
      have hq : (d.toList.map encR)[j / 24]? = some (encR d[j / 24]!) := by
        have hlt : j / 24 < d.size := by omega
        rw [List.getElem?_map, Array.getElem?_toList, Array.getElem?_eq_getElem hlt, getElem!_pos d (j / 24) hlt]; rfl
      have hr : (encR d[j / 24]!)[j % 24]? = some ((encR d[j / 24]!)[j % 24]!) := by
        have h2 : j % 24 < (encR d[j / 24]!).length := by rw [encR_len]; omega
        rw [List.getElem?_eq_getElem h2, getElem!_pos (encR d[j / 24]!) (j % 24) h2]
      have hf := flatten_at hcs (j / 24) (j % 24) _ _ hq hr
      rw [show j / 24 * 24 + j % 24 = j by omega] at hf
      rw [hf]
      have hjc : j < cur.size := by omega
      have hcj : cur[j]? = some cur[j] := Array.getElem?_eq_getElem hjc
      unfold putCells
      rw [Array.getElem?_mapIdx, hcj, Option.map_some, if_pos (by rw [size_flatK]; omega), Nat.sub_zero]
      show some (flatK encR 24 d)[j]! = _
      rw [get_flatK encR 24 d j hjd]
    · rw [if_neg hj, List.getElem?_eq_none (by rw [hfl]; omega)]
set_option maxHeartbeats 1000000 in
theorem sort_rows {P : Program} {ρ : Ren} (L : SlLaysF0.n6 P ρ) (aE : ∀ w, (isAgg (ρ.t 24)).run P w = .ok true w) (zE : ∀ w, (Go.sizeOf (ρ.t 24)).run P w = .ok 24 w) {e : TypeId} (g : Nat) (eg : ∀ args w, (callFunc g args).run P w = .ok (.enter g args) w)
    (hc : ∀ (x y : Rw) (W : World), Rw.ok x → Rw.ok y → Calls P g #[Rw.val x, Rw.val y] W fun z W' => z = .returned (.int .i64 (cmpR x y)) ∧ Gr.Fut W W')
    (w w1 : World) (hw : Fut w w1) (t : Value) (ts : List Rw) (h : OwnL 24 w.heap.size e RR w1 t ts) (hne : ts ≠ []) (hlen : ts.length < 4611686018427387904) :
    Calls P (ρ.f 6) #[t, .func (.func g) #[] #[]] w1 fun x w2 => x = .returned (.tuple #[]) ∧ ∃ ts' : List Rw, ts'.Perm ts ∧ Sorted cmpR ts' ∧ OwnL 24 w.heap.size e RR w2 t ts' ∧ Fut w w2 := by
  have hok := rows_ok h.rep
  obtain ⟨blk, cap, css, rfl, hcl, hcm, hB, hlt, hcs, hel, hcells⟩ := ownR_row h hne
  obtain ⟨d, hd⟩ : ∃ d : List RwOk, d.map (fun q => q.1) = ts := ⟨ts.pmap (fun x h => ⟨x, h⟩) hok, by simp [List.map_pmap]⟩
  have hdl : d.length = ts.length := by rw [← hd, List.length_map]
  have hcd : ∀ i (hi : i < d.length), css[i]? = some (encR d[i]) := fun i hi => by
    obtain ⟨_, h2⟩ := hel i _ _ (List.getElem?_eq_getElem (by omega)) (List.getElem?_eq_getElem (by omega))
    rw [List.getElem?_eq_getElem (by omega), h2.1]
    have e2 : (d.map fun q => q.1)[i]? = ts[i]? := by rw [hd]
    rw [List.getElem?_map, List.getElem?_eq_getElem hi, List.getElem?_eq_getElem (by omega)] at e2
    simp only [Option.map_some, Option.some.injEq] at e2
    unfold encR
    rw [e2]
  have hsz : d.toArray.size = ts.length := by simpa using hdl
  have hs2 : ∀ (i : Nat) (cs : List Value), css[i]? = some cs → cs.length = 24 := fun i cs hi => by
    have hil := (List.getElem?_eq_some_iff.1 hi).1
    exact (hel i cs _ hi (List.getElem?_eq_getElem (by omega))).1
  have hH : HoldsK encR 24 w1 blk 0 d.toArray := fun j hj => by
    rw [size_flatK] at hj
    rw [get_flatK encR 24 d.toArray j hj]
    have hj' : j < d.length * 24 := by simpa using hj
    have hq := hcd (j / 24) (by omega)
    have hdj : d.toArray[j / 24]! = d[j / 24]'(by omega) := by rw [getElem!_pos d.toArray (j / 24) (by simp; omega)]; simp
    rw [hdj]
    have hr : (encR (d[j / 24]'(by omega)))[j % 24]? = some ((encR (d[j / 24]'(by omega)))[j % 24]!) := by
      have h2 : j % 24 < (encR (d[j / 24]'(by omega))).length := by rw [encR_len]; omega
      rw [List.getElem?_eq_getElem h2, getElem!_pos (encR (d[j / 24]'(by omega))) (j % 24) h2]
    have hf := flatten_at hs2 (j / 24) (j % 24) _ _ hq hr
    rw [show j / 24 * 24 + j % 24 = j by omega] at hf
    have := hcells j _ hf
    rw [Nat.zero_add]
    exact this
  have hbw : w.heap.size ≤ w1.heap.size := hw.size
  have hS := AnyQ.slices_SortFunc L 24 aE zE encR encR_len encR_one (fun x y => cmpR x.1 y.1) (pull_swoR fun q : RwOk => q.1) g #[] blk 0 cap d.toArray w1 eg
    (fun m os dk hdk x y => by
      have := hc x.1 y.1 (sortWorldK encR 24 w1 blk 0 m dk os) x.2 y.2
      rw [Array.append_empty]
      exact this) hH hlt (by rw [hsz]; exact hlen)
  rw [hsz] at hS
  refine hS.mono ?_
  rintro x w2 ⟨rfl, d', n, os, hp, hs, rfl⟩
  have hperm := perm_of_in (hsz ▸ hp)
  have hd'l : d'.size = ts.length := by have := hperm.length_eq; simpa [hdl] using this
  refine ⟨rfl, d'.toList.map fun q => q.1, ?_, ?_, ?_, fut_sortK hw _ _ _ _ _ _ _ hB⟩
  · have := hperm.map fun q => q.1
    simpa [hd] using this
  · exact sorted_of_in (f := fun q : RwOk => q.1) hs hd'l
  · have hml : (d'.toList.map fun q => q.1).length = ts.length := by simp [hd'l]
    exact own_sorted h d' hd'l
end Go.Proofs.YtijdichfaofjaaaGreatDoor
/- slices.SortFunc's conditions at this dump, out of the kit's shelf (lay-plain.mjs), in plain words. -/
namespace Go.Proofs
open Go.Shelf
def Tryz.sortR_ren : Go.Shelf.Ren := ⟨fun | 6 => 73 | 15 => 173 | 14 => 172 | 28 => 215 | 29 => 216 | 20 => 207 | 21 => 208 | 22 => 209 | 23 => 210 | 24 => 211 | 25 => 212 | 26 => 213 | 27 => 214 | 46 => 218 | 47 => 219 | 48 => 220 | 49 => 221 | 50 => 222 | 57 => 224 | n => n, fun | 22 => 30 | 24 => 27 | 25 => 104 | 3 => 3 | 39 => 296 | 0 => 0 | 53 => 23 | 55 => 338 | 4 => 4 | 46 => 331 | 45 => 330 | 50 => 106 | 5 => 5 | 9 => 9 | 66 => 339 | 70 => 343 | 76 => 345 | 77 => 346 | n => n, fun | n => n⟩
theorem Tryz.sortR : Go.Proofs.SlLaysF0.n6 Tryz.prog Tryz.sortR_ren := {
  mixed := by kernel_rfl
  f6 := ⟨Tryz.f73.name, by decide, Tryz.func73.trans (congrArg some (by kernel_rfl))⟩
  f14 := ⟨Tryz.f172.name, by decide, Tryz.func172.trans (congrArg some (by kernel_rfl))⟩
  f15 := Tryz.func173.trans (congrArg some (by kernel_rfl))
  f20 := ⟨Tryz.f207.name, by decide, Tryz.func207.trans (congrArg some (by kernel_rfl))⟩
  f21 := ⟨Tryz.f208.name, by decide, Tryz.func208.trans (congrArg some (by kernel_rfl))⟩
  f22 := ⟨Tryz.f209.name, by decide, Tryz.func209.trans (congrArg some (by kernel_rfl))⟩
  f23 := ⟨Tryz.f210.name, by decide, Tryz.func210.trans (congrArg some (by kernel_rfl))⟩
  f24 := ⟨Tryz.f211.name, by decide, Tryz.func211.trans (congrArg some (by kernel_rfl))⟩
  f25 := ⟨Tryz.f212.name, by decide, Tryz.func212.trans (congrArg some (by kernel_rfl))⟩
  f26 := ⟨Tryz.f213.name, by decide, Tryz.func213.trans (congrArg some (by kernel_rfl))⟩
  f27 := ⟨Tryz.f214.name, by decide, Tryz.func214.trans (congrArg some (by kernel_rfl))⟩
  f28 := Tryz.func215.trans (congrArg some (by kernel_rfl))
  f29 := Tryz.func216.trans (congrArg some (by kernel_rfl))
  f46 := ⟨Tryz.f218.name, by decide, Tryz.func218.trans (congrArg some (by kernel_rfl))⟩
  f47 := Tryz.func219.trans (congrArg some (by kernel_rfl))
  f48 := Tryz.func220.trans (congrArg some (by kernel_rfl))
  f49 := ⟨Tryz.f221.name, by decide, Tryz.func221.trans (congrArg some (by kernel_rfl))⟩
  f50 := ⟨Tryz.f222.name, by decide, Tryz.func222.trans (congrArg some (by kernel_rfl))⟩
  f57 := ⟨Tryz.f224.name, by decide, Tryz.func224.trans (congrArg some (by kernel_rfl))⟩
  t0 := Tryz.underlying0
  a0 := Tryz.isAgg0
  z0 := Tryz.sizeOf0
  v0 := Tryz.zeroValue0
  t3 := Tryz.underlying3
  a3 := Tryz.isAgg3
  z3 := Tryz.sizeOf3
  v3 := Tryz.zeroValue3
  t4 := Tryz.underlying4
  a4 := Tryz.isAgg4
  z4 := Tryz.sizeOf4
  v4 := Tryz.zeroValue4
  t5 := Tryz.underlying5
  a5 := Tryz.isAgg5
  z5 := Tryz.sizeOf5
  v5 := Tryz.zeroValue5
  t9 := Tryz.underlying9
  a9 := Tryz.isAgg9
  z9 := Tryz.sizeOf9
  v9 := Tryz.zeroValue9
  t22 := Tryz.underlying30
  a22 := Tryz.isAgg30
  z22 := Tryz.sizeOf30
  v22 := Tryz.zeroValue30
  t25 := Tryz.underlying104
  a25 := Tryz.isAgg104
  z25 := Tryz.sizeOf104
  v25 := Tryz.zeroValue104
  t39 := Tryz.underlying296
  a39 := Tryz.isAgg296
  z39 := Tryz.sizeOf296
  v39 := Tryz.zeroValue296
  t45 := Tryz.underlying330
  a45 := Tryz.isAgg330
  z45 := Tryz.sizeOf330
  v45 := Tryz.zeroValue330
  t46 := Tryz.underlying331
  a46 := Tryz.isAgg331
  z46 := Tryz.sizeOf331
  v46 := Tryz.zeroValue331
  t50 := Tryz.underlying106
  a50 := Tryz.isAgg106
  z50 := Tryz.sizeOf106
  v50 := Tryz.zeroValue106
  t53 := Tryz.underlying23
  a53 := Tryz.isAgg23
  z53 := Tryz.sizeOf23
  v53 := Tryz.zeroValue23
  t55 := Tryz.underlying338
  a55 := Tryz.isAgg338
  z55 := Tryz.sizeOf338
  v55 := Tryz.zeroValue338
  t66 := Tryz.underlying339
  a66 := Tryz.isAgg339
  z66 := Tryz.sizeOf339
  v66 := Tryz.zeroValue339
  t70 := Tryz.underlying343
  a70 := Tryz.isAgg343
  z70 := Tryz.sizeOf343
  v70 := Tryz.zeroValue343
  t76 := Tryz.underlying345
  a76 := Tryz.isAgg345
  z76 := Tryz.sizeOf345
  v76 := Tryz.zeroValue345
  t77 := Tryz.underlying346
  a77 := Tryz.isAgg346
  z77 := Tryz.sizeOf346
  v77 := Tryz.zeroValue346 }
end Go.Proofs
/- A range over a function whose iterator reads memory that lay there before, between two rounds: the rounds must keep it (D). No program. -/
namespace Go.Proofs.YtijdichfaofjaaaGreatDoor
open Go.RowKit
set_option linter.unusedSimpArgs false
set_option linter.unusedVariables false

/-- As IterAt, where the rounds keep D. -/
def IterIf (D : World → Prop) (P : Program) (gf : Nat) (lb : Array Value) (N : Nat) (args : Nat → Array Value) (w : World) : Prop :=
  ∀ (l : Nat) (J : Nat → Nat → World → Prop) (Jx : Nat → World → Prop), (∀ s k W, J s k W → D W) →
    (∀ w1, Fut w w1 → J w1.heap.size 0 w1) → (∀ s k W W', Fut W W' → J s k W → J s k W') →
    (∀ s k W, w.heap.size ≤ s → s ≤ W.heap.size → k < N → J s k W → YieldAt Fence.wide 2 P l (args k) W fun e W' =>
      (e = .returned (.bool true) ∧ J s (k + 1) W' ∧ Mid w.heap.size s W W') ∨ (e = .returned (.bool false) ∧ Jx s W')) →
    Calls P gf (#[.func (.yield l) #[] #[]] ++ lb) w fun e W' => (∃ v, e = .returned v) ∧ ((∃ s, J s N W') ∨ ∃ s, Jx s W')
theorem IterAt.toIf {P : Program} {gf : Nat} {lb : Array Value} {N : Nat} {args : Nat → Array Value} {w : World} (h : IterAt P gf lb N args w) (D : World → Prop) : IterIf D P gf lb N args w := fun l J Jx _ => h l J Jx
theorem wp_range_if {D : World → Prop} {P : Program} {g : Operand} {ps : Array Tmp} {assign body : Code} {Q : Exit → Act → World → Prop} {a : Act} {w : World} {gf : Nat} {lb : Array Value}
    (hg : a.eval g = .func (.func gf) #[] lb) (eg : ∀ args w, (callFunc gf args).run P w = .ok (.enter gf args) w) {N : Nat} {args : Nat → Array Value}
    (hit : ∀ w1, Fut w w1 → IterIf D P gf lb N args w1) (hps : ∀ k, k < N → (args k).size = ps.size)
    (I : Nat → Nat → World → Prop) (Ix : Code → Nat → World → Prop)
    (hD : ∀ s k W, I s k W → D W) (hIf : ∀ s k W W', Fut W W' → I s k W → I s k W') (hI : ∀ s k W l o, w.heap.size ≤ l → l < w.heap.size + 2 → w.heap.size + 2 ≤ s → I s k W → I s k (W.putObj l o)) (hIx : ∀ c s W l o, w.heap.size ≤ l → l < w.heap.size + 2 → w.heap.size + 2 ≤ s → Ix c s W → Ix c s (W.putObj l o))
    (h0 : ∀ w1, Fut w w1 → w.heap.size + 2 ≤ w1.heap.size → I w1.heap.size 0 w1)
    (hbody : ∀ l s k W, w.heap.size ≤ l → l < w.heap.size + 2 → w.heap.size + 2 ≤ s → s ≤ W.heap.size → k < N → I s k W → (∃ r, W.heap[l]? = some (.loop r)) →
      assign.wpIn (Fence.wide.inRound l) 2 P (Exit.then (fun a₁ W₁ => Mid w.heap.size s W W₁ ∧ ∀ o, body.wpIn (Fence.wide.inRound l) 2 P (roundOut w.heap.size s (I s (k + 1)) (fun c => Ix c s) (W₁.putObj l o)) a₁ (W₁.putObj l o)) (fun _ _ _ => False))
        { tmps := (ps.zip (args k)).foldl (fun t (p, v) => t.setIfInBounds p v) a.tmps, defers := [] } W)
    (hdone : ∀ s W, w.heap.size + 2 ≤ s → I s N W → W.heap[w.heap.size]? = some (.deferred (some [])) → Q .normal { a with defers := { target := .collected w.heap.size, args := #[] } :: a.defers } W)
    (hstop : ∀ s c W, w.heap.size + 2 ≤ s → Ix c s W → W.heap[w.heap.size]? = some (.deferred (some [])) → c.wp P Q { a with defers := { target := .collected w.heap.size, args := #[] } :: a.defers } W) :
    (Code.rangeFunc g ps assign body).wp P Q a w := by
  refine (wpIn_wide (n := 3)).1 (wpIn_rangeFunc ?_)
  intro fn hfn
  obtain ⟨rec, hrec⟩ : ∃ rec : LoopState → Option Code → Loop, rec = fun st pe => { state := st, pending := pe, fn, tmps := a.tmps, params := ps, assign, body, defers := w.heap.size } := ⟨_, rfl⟩
  obtain ⟨W1, hW1⟩ : ∃ W1, (w.alloc (.deferred (some []))).alloc (.loop (rec .ready none)) = W1 := ⟨_, rfl⟩
  have hL1 : W1.heap[w.heap.size + 1]? = some (.loop (rec .ready none)) := by
    rw [← hW1]; have := World.alloc_heap_new (w.alloc (.deferred (some []))) (.loop (rec .ready none)); rwa [World.size_alloc] at this
  have hK1 : W1.heap[w.heap.size]? = some (.deferred (some [])) := by
    rw [← hW1]; exact (Below.heap_alloc _ _ _ (by simp)).trans (World.alloc_heap_new w _)
  have hf1 : Fut w W1 := by rw [← hW1]; exact (Fut.alloc _ _).trans (Fut.alloc _ _)
  have hs1 : W1.heap.size = w.heap.size + 2 := by rw [← hW1]; simp
  refine ⟨w.heap.size + 1, [{ target := .collected w.heap.size, args := #[] }], W1, { target := .fn (.func gf) lb, args := #[.func (.yield (w.heap.size + 1)) #[] #[]] }, W1, gf,
    #[.func (.yield (w.heap.size + 1)) #[] #[]] ++ lb, W1, ?_, ?_, ?_, ?_, fun h => by simp [Fence.wide] at h, ?_⟩
  · rw [← hW1, hrec]; exact run_enterLoop_outer _ _ _ _ _
  · simp only [resolve, hg]
    simp [go_sem]
  · intro f' hf'; trivial
  · simp [invoke, go_sem, eg]
  · refine callsIn_wide.2 ?_
    refine (hit W1 hf1 (w.heap.size + 1)
      (fun s k W => I (max s (w.heap.size + 2)) k W ∧ W.heap[w.heap.size + 1]? = some (.loop (rec .ready none)) ∧ W.heap[w.heap.size]? = some (.deferred (some [])))
      (fun s W => ∃ c, Ix c (max s (w.heap.size + 2)) W ∧ W.heap[w.heap.size + 1]? = some (.loop (rec .done (some c))) ∧ W.heap[w.heap.size]? = some (.deferred (some []))) (fun s k W hj => hD _ _ _ hj.1) ?_ (fun s k W W' hf hj => ⟨hIf _ _ _ _ hf hj.1, hf.block hj.2.1, hf.block hj.2.2⟩) ?_).mono ?_
    · intro w1 hf
      have hsz := hf.size
      refine ⟨?_, hf.block hL1, hf.block hK1⟩
      rw [Nat.max_eq_left (by omega)]
      exact h0 w1 (hf1.trans hf) (by omega)
    · rintro s k W hs hsW hk ⟨hi, hl, hd⟩
      rw [hs1] at hs
      rw [Nat.max_eq_left hs] at hi
      have hlt : w.heap.size + 1 < W.heap.size := (Array.getElem?_eq_some_iff.1 hl).1
      have hy := run_yield (P := P) (args := args k) hl (by rw [hrec]; exact hps k hk)
      rw [hrec] at hy
      refine ⟨fn, _, assign, body, hy, roundIn_of_wpIn hfn ?_⟩
      clear hy
      refine wpIn_mono (hbody (w.heap.size + 1) s k W (by omega) (by omega) hs hsW hk hi ⟨_, hl⟩) ?_
      intro e a1 Wa hp
      cases e with
      | normal =>
        obtain ⟨hm, hp⟩ := hp
        have hla : Wa.heap[w.heap.size + 1]? = some (.loop (rec .ready none)) := (hm.2 _ (by omega) (by omega)).trans hl
        have hda : Wa.heap[w.heap.size]? = some (.deferred (some [])) := (hm.2 _ (by omega) (by omega)).trans hd
        have hlta : w.heap.size + 1 < Wa.heap.size := (Array.getElem?_eq_some_iff.1 hla).1
        refine ⟨_, run_beginRound hla (by rw [hrec]), ?_⟩
        have hl2 : (Wa.putObj (w.heap.size + 1) (.loop { rec .ready none with state := .busy })).heap[w.heap.size + 1]? = some (.loop { rec .ready none with state := .busy }) := World.putObj_heap_same hlta
        have hd2 : (Wa.putObj (w.heap.size + 1) (.loop { rec .ready none with state := .busy })).heap[w.heap.size]? = some (.deferred (some [])) := (World.putObj_heap_other (by omega)).trans hda
        refine wpIn_mono (hp _) ?_
        have fin : ∀ (jump : Option Code) (W3 : World), Mid w.heap.size s (Wa.putObj (w.heap.size + 1) (.loop { rec .ready none with state := .busy })) W3 →
            (Instr.endRound (w.heap.size + 1) jump).run P W3 = .ok (.bool jump.isNone) (W3.putObj (w.heap.size + 1) (.loop (rec (if jump.isNone then .ready else .done) jump))) ∧
            (W3.putObj (w.heap.size + 1) (.loop (rec (if jump.isNone then .ready else .done) jump))).heap[w.heap.size + 1]? = some (.loop (rec (if jump.isNone then .ready else .done) jump)) ∧
            (W3.putObj (w.heap.size + 1) (.loop (rec (if jump.isNone then .ready else .done) jump))).heap[w.heap.size]? = some (.deferred (some [])) := fun jump W3 hk3 => by
          have hl3 := (hk3.2 (w.heap.size + 1) (by omega) (by omega)).trans hl2
          have hd3 := (hk3.2 w.heap.size (by omega) (by omega)).trans hd2
          have := run_endRound (P := P) jump hl3
          rw [hrec] at this ⊢
          exact ⟨this, World.putObj_heap_same (Array.getElem?_eq_some_iff.1 hl3).1, (World.putObj_heap_other (by omega)).trans hd3⟩
        rintro e a3 W3 hp
        have hput : ∀ o o' : Obj, Mid w.heap.size s (Wa.putObj (w.heap.size + 1) o) W3 → Mid W1.heap.size s W (W3.putObj (w.heap.size + 1) o') := fun o o' hm3 =>
          ⟨by rw [World.putObj_size]; have h1 := hm3.1; rw [World.putObj_size] at h1; exact Nat.le_trans hm.1 h1, fun j h1 h2 => by
            rw [hs1] at h1
            rw [World.putObj_heap_other (by omega), hm3.2 j (by omega) h2, World.putObj_heap_other (by omega), hm.2 j (by omega) h2]⟩
        cases e with
        | normal =>
          obtain ⟨hm3, hi3⟩ := hp
          obtain ⟨hr, hl4, hd4⟩ := fin none W3 hm3
          exact ⟨_, _, hr, .inl ⟨rfl, ⟨by rw [Nat.max_eq_left hs]; exact hI s _ _ _ _ (by omega) (by omega) hs hi3, hl4, hd4⟩, hput _ _ hm3⟩⟩
        | ret =>
          obtain ⟨hm3, hi3⟩ := hp
          obtain ⟨hr, hl4, hd4⟩ := fin (some .ret) W3 hm3
          exact ⟨_, _, hr, .inr ⟨rfl, .ret, by rw [Nat.max_eq_left hs]; exact hIx _ s _ _ _ (by omega) (by omega) hs hi3, hl4, hd4⟩⟩
        | exit id =>
          obtain ⟨hm3, hi3⟩ := hp
          obtain ⟨hr, hl4, hd4⟩ := fin (some (.exit id)) W3 hm3
          exact ⟨_, _, hr, .inr ⟨rfl, .exit id, by rw [Nat.max_eq_left hs]; exact hIx _ s _ _ _ (by omega) (by omega) hs hi3, hl4, hd4⟩⟩
        | goto t =>
          obtain ⟨hm3, hi3⟩ := hp
          obtain ⟨hr, hl4, hd4⟩ := fin (some (.goto t)) W3 hm3
          exact ⟨_, _, hr, .inr ⟨rfl, .goto t, by rw [Nat.max_eq_left hs]; exact hIx _ s _ _ _ (by omega) (by omega) hs hi3, hl4, hd4⟩⟩
        | panic ch => exact hp.elim
        | outgrown => exact hp.elim
      | ret => exact hp.elim
      | exit id => exact hp.elim
      | goto t => exact hp.elim
      | panic ch => exact hp.elim
      | outgrown => exact hp.elim
    · rintro e W2 ⟨⟨v, rfl⟩, (⟨s, hi, hl, hd⟩ | ⟨s, c, hi, hl, hd⟩)⟩
      · exact ⟨none, _, by have := run_endLoop (P := P) hl (by rw [hrec]; simp); rw [hrec] at this; exact this, hdone _ _ (Nat.le_max_right _ _) (hI _ _ _ _ _ (by omega) (by omega) (Nat.le_max_right _ _) hi) ((World.putObj_heap_other (by omega)).trans hd)⟩
      · exact ⟨some c, _, by have := run_endLoop (P := P) hl (by rw [hrec]; simp); rw [hrec] at this; exact this, (wpIn_wide (n := 3)).2 (hstop _ c _ (Nat.le_max_right _ _) (hIx _ _ _ _ _ (by omega) (by omega) (Nat.le_max_right _ _) hi) ((World.putObj_heap_other (by omega)).trans hd))⟩
end Go.Proofs.YtijdichfaofjaaaGreatDoor
/- slices.Values, slices.AppendSeq, slices.Collect of rows. -/
namespace Go.Proofs.YtijdichfaofjaaaGreatDoor
open Go.RowKit Go.WideMaps Go.Shelf
set_option linter.unusedSimpArgs false
set_option linter.unusedVariables false
attribute [local go_sem] Oper.semAt_some

set_option maxHeartbeats 400000 in
set_option maxRecDepth 100000 in
theorem values_any (v : Value) (w : World) (hv : ∃ A n cap, v = .slice A n cap) :
    Calls Tryz.prog 27 #[v] w fun e w' => ∃ b, e = .returned (.func (.func 74) #[] #[.pointer (some ⟨b, 0, none⟩)]) ∧ w'.cell? ⟨b, 0, none⟩ = some v ∧ Fut w w' := by
  have f1 := Fut.alloc w (.cells #[v] 30)
  have c1 := cell_at (heap_alloc_new w (.cells #[v] 30)) 0 _ rfl
  obtain ⟨A, n, cap, rfl⟩ := hv
  go_enter Tryz.func27, Tryz.ntmps27
  go_wp2
  go_ret
  exact ⟨_, rfl, c1, f1⟩
set_option maxHeartbeats 1600000 in
set_option maxRecDepth 100000 in
theorem values_iter {w : World} {A : Option Addr} {cap M : Nat} {xs : List Rw} (hM : M ≤ 9223372036854775807) (b : Nat) (h : SlRep 24 M RR w (.slice A xs.length cap) xs) (c : w.cell? ⟨b, 0, none⟩ = some (.slice A xs.length cap)) :
    IterIf (fun W => SlRep 24 M RR W (.slice A xs.length cap) xs) Tryz.prog 74 #[.pointer (some ⟨b, 0, none⟩)] xs.length (fun k => #[Rw.val (xs.getD k zeroRow)]) w := by
  intro l J Jx hJD h0 hst hY
  have HJD := Lib.hid hJD
  have HST := Lib.hid hst
  have HY := Lib.hid hY
  have HJ0 := Lib.hid (h0 w (Fut.refl w))
  have hll := h.len
  obtain ⟨A1, cap1, hv1, hcl, hcm⟩ := h.form
  injection hv1 with hA1 _ hv1
  subst hA1
  subst hv1
  clear hJD h0 hst hY h
  refine (callsIn_wide (n := 3)).1 ?_
  refine callsIn_of_wp Tryz.func74 rfl trivial ?_ rfl
  simp only [Tryz.ntmps74, List.size_toArray, List.length_cons, List.length_nil, Nat.reduceAdd, Nat.reduceSub, Array.replicate_succ, Array.replicate_zero, List.push_toArray, List.append_toArray, List.nil_append, List.cons_append]
  gi_wp2
  gi_loopw [7] (fun i wr => ∃ k : Nat, k ≤ xs.length ∧ i = .int .i64 k ∧ Hid (J w.heap.size k wr) ∧ w.heap.size ≤ wr.heap.size) (fun i _ => xs.length - (intOf i).toNat)
  case atStart => exact ⟨0, Nat.zero_le _, rfl, HJ0, Nat.le_refl _⟩
  case round =>
    obtain ⟨k, hk, rfl, hJ, hsz⟩ := hrel
    by_cases hlt : k < xs.length
    · obtain ⟨gu, offu, rfl, hrk⟩ := rows_at (HJD.out _ _ _ hJ.out) hlt
      have hyk : xs.getD k zeroRow = xs[k] := by simp [List.getD, hlt]
      generalize xs[k] = y at hrk hyk
      have hy0 := hrk.1
      have hr6 := RowAt.new wr 27 hy0
      obtain ⟨fn, tmps, assign, body, hy, hRd⟩ := HY.out w.heap.size k (wr.alloc (.cells (Rw.cells y).toArray 27)) (Nat.le_refl _) (by simp; omega) hlt (HST.out _ _ _ _ (Fut.alloc _ _) hJ.out)
      rw [hyk] at hy
      have e1 : (0 : Int) ≤ k ∧ (k : Int) < xs.length := by omega
      gi_wp2_with (first | (refine wpListIn_load_R wide_fn rowTy (wanted_none rfl _) _ rfl rfl hrk ?_) | (refine wpListIn_load_R wide_fn rowTy (wanted_none rfl _) _ rfl rfl hr6 ?_) | (refine wpListIn_store_new wide_fn rowTy (wanted_none rfl _) _ _ rfl rfl rfl rfl hy0 ?_))
      refine hRd.mono ?_
      rintro e w4 (⟨rfl, hJ4, hm4⟩ | ⟨rfl, hJx4⟩)
      · have hJ4' := Lib.hid hJ4
        have hm41 := hm4.1
        have hs4 : (wr.alloc (.cells (Rw.cells y).toArray 27)).heap.size = wr.heap.size + 1 := by simp
        clear hJ4 hm4
        gi_wp2
        go_roundw
        case rel => exact ⟨k + 1, by omega, by go_num, hJ4', by omega⟩
        case measure => simp [intOf] <;> omega
      · gi_wp2
        refine bodyPost_ret (results_none rfl _ _ _) rfl ?_
        exact ⟨⟨_, rfl⟩, .inr ⟨_, hJx4⟩⟩
    · obtain rfl : k = xs.length := by omega
      gi_wp2
      go_end0
      exact ⟨⟨_, rfl⟩, .inl ⟨_, hJ.out⟩⟩
theorem wpListIn_append_R {F : Fence} {n : Nat} {P : Program} {ops : Array Oper} {rest : List Oper} {Q : Exit → Act → World → Prop} {o : Oper} {a : Act} {t e : TypeId} {B : Nat} {w : World} {v u : Value} {xs ys : List Rw} {M : Nat} (hF : ∀ f, F.fn f) (hgd : Region.wanted o (yielded ops a.tmps) = true) (s x : Operand)
    (ho : o.op = .call { callee := .builtin .append, args := #[s, x], argTypes := #[t, t] }) (ht : P.underlying t = some (.slice e))
    (hinfo : (P.info? e).map (fun i => (i.zero, i.size, i.bytes)) = some (some (Rw.val zeroRow), 24, 96))
    (hs : a.eval s = v) (hx : a.eval x = u) (hown : OwnL 24 B e RR w v xs) (hu : SlRep 24 M RR w u ys) (hlen : xs.length + ys.length ≤ 1407374883512) (hbase : B ≤ w.heap.size)
    (h : ∀ v' w', OwnL 24 B e RR w' v' (xs ++ ys) → w.grownBy w' v.ownBlock → (v'.ownBlock = v.ownBlock ∨ v'.ownBlock = some w.heap.size) → wpListIn F n P ops Q rest (a.put o.dst v') w') : wpListIn F n P ops Q (o :: rest) a w := by
  obtain ⟨v', w', hr, h2, h3, h4⟩ := exec_append_R s x ho ht hinfo hs hx hown hu hlen hbase
  exact wpListIn_of_run hF (fun c h => by rw [ho] at h; cases h) hgd hr (h v' w' h2 h3 h4)
set_option maxHeartbeats 1600000 in
set_option maxRecDepth 100000 in
theorem appendSeq_any {D : World → Prop} {w : World} {lb : Array Value} {xs : List Rw} (hl : xs.length ≤ 1407374883512) (hok : ∀ x ∈ xs, Rw.ok x)
    (hit : ∀ W, Fut w W → IterIf D Tryz.prog 74 lb xs.length (fun k => #[Rw.val (xs.getD k zeroRow)]) W) (hD : ∀ W, Fut w W → D W) :
    Calls Tryz.prog 171 #[.slice none 0 0, .func (.func 74) #[] lb] w fun e w' => ∃ v, e = .returned v ∧ OwnL 24 w.heap.size 27 RR w' v xs ∧ Fut w w' := by
  have HIt := Lib.hid hit
  have HD := Lib.hid hD
  have HOk := Lib.hid hok
  clear hit hD hok
  refine (callsIn_wide (n := 3)).1 ?_
  refine callsIn_of_wp_marks Tryz.func171 rfl trivial ?_ rfl
  refine wpIn_wide.2 ?_
  simp only [Tryz.ntmps171, List.size_toArray, List.length_cons, List.length_nil, Nat.reduceAdd, Nat.reduceSub, Array.replicate_succ, Array.replicate_zero, List.push_toArray, List.append_toArray, List.nil_append, List.cons_append]
  go_wp2_with fail
  have f1 := Fut.alloc w (.cells #[Value.slice none 0 0] 30)
  have hO := heap_alloc_new w (.cells #[Value.slice none 0 0] 30)
  obtain ⟨wl, hW⟩ : ∃ W, w.alloc (.cells #[Value.slice none 0 0] 30) = W := ⟨_, rfl⟩
  have hs1 : wl.heap.size = w.heap.size + 1 := by rw [← hW]; simp
  rw [hW] at f1 hO ⊢
  clear hW
  have FL := Lib.hid f1
  have HI0 := Lib.hid (show ∀ k (hk : k < xs.length), xs.getD k zeroRow = xs[k] from fun k hk => by simp [List.getD, hk])
  clear f1
  refine wp_range_if (D := D) (N := xs.length) (args := fun k => #[Rw.val (xs.getD k zeroRow)]) rfl (enters_of Tryz.func74 (by kernel_rfl) rfl) (fun W hf => HIt.out W (FL.out.trans hf)) (fun k hk => rfl)
    (fun s k W => ∃ ov, OwnL 24 w.heap.size 27 RR W ov (xs.take k) ∧ (∀ j, ov.ownBlock = some j → s ≤ j) ∧ W.heap[w.heap.size]? = some (.cells #[ov] 30 (0, 0)) ∧ Only (fun j => j = w.heap.size) wl W)
    (fun _ _ _ => False) ?hD ?hIf ?hI ?hIx ?h0 ?hbody ?hdone ?hstop
  case hD => rintro s k W ⟨ov, h1, h2, h3, h4⟩; exact HD.out W (((Only.fut FL.out).trans (h4.mono (S' := fun j => w.heap.size ≤ j) fun j _ hj => Nat.le_of_eq hj.symm)).toFut fun j hj => hj)
  case hIf => rintro s k W W' hf ⟨ov, h1, h2, h3, h4⟩; exact ⟨ov, h1.fut RR.stays hf, h2, hf.block h3, h4.trans (Only.fut hf)⟩
  case hI =>
    rintro s k W l o hl1 hl2 hs ⟨ov, h1, h2, h3, h4⟩
    have OP : Only (fun j => j = l) W (W.putObj l o) := Only.put _ _ rfl
    exact ⟨ov, h1.onlyR OP (fun j hj e => by have := h2 j hj; omega), h2, OP.keeps h3 (by show ¬ w.heap.size = l; omega), h4.then OP fun j hj hlt => by omega⟩
  case hIx => exact fun _ _ _ _ _ _ _ _ h => h
  case h0 =>
    intro w4 hf hs
    exact ⟨_, OwnL.nil, fun j hj => (by cases hj), hf.block hO, Only.fut hf⟩
  case hbody =>
    rintro l s k W hl1 hl2 hs hsW hk ⟨ov, h1, h2, h3, h4⟩ hrec
    simp only [HI0.out k hk]
    have hyo := HOk.out _ (List.getElem_mem hk)
    have htk : xs.take (k + 1) = xs.take k ++ [xs[k]] := List.take_succ_eq_append_getElem hk
    generalize xs[k] = y at hyo htk
    obtain ⟨rr, hrr⟩ := hrec
    gi_wp2_with (first | (refine wpListIn_store_new (round_fn l) rowTy (wanted_none rfl _) _ _ rfl rfl rfl rfl hyo ?_))
    refine ⟨Mid.of_fut (Fut.alloc _ _) hsW, fun o => ?_⟩
    have OP : Only (fun j => j = l) W ((W.alloc (.cells (Rw.cells y).toArray 27)).putObj l o) := (Only.fut (Fut.alloc _ _)).trans (Only.put _ _ rfl)
    have hr5 : RowAt ((W.alloc (.cells (Rw.cells y).toArray 27)).putObj l o) W.heap.size 0 y := (RowAt.new W 27 hyo).only (Only.put (S := fun j => j = l) l o rfl) (by omega)
    have hsP : W.heap.size < ((W.alloc (.cells (Rw.cells y).toArray 27)).putObj l o).heap.size := by rw [World.putObj_size]; simp
    obtain ⟨Wp, hWp⟩ : ∃ x, (W.alloc (.cells (Rw.cells y).toArray 27)).putObj l o = x := ⟨_, rfl⟩
    rw [hWp] at OP hr5 hsP ⊢
    clear hWp hrr
    replace h1 : OwnL 24 w.heap.size 27 RR Wp ov (xs.take k) := h1.onlyR OP (fun j hj e => by have := h2 j hj; omega)
    replace h3 := OP.keeps h3 (by show ¬ w.heap.size = l; omega)
    replace h4 := h4.then OP fun j hj hlt => by omega
    have c2 := cell_at h3 0 _ rfl
    have hOa := h1.fut RR.stays (Fut.alloc Wp (.cells (Rw.cells y).toArray 27))
    have hRo := rowOne Wp 27 hyo
    have hLa : (xs.take k).length + [y].length ≤ 1407374883512 := by simp; omega
    have hBa : w.heap.size ≤ (Wp.alloc (.cells (Rw.cells y).toArray 27)).heap.size := by simp; omega
    have p3a := (Fut.alloc Wp (.cells (Rw.cells y).toArray 27)).block h3
    have hne : ∀ j, ov.ownBlock = some j → j ≠ w.heap.size := fun j hj e => by have := h2 j hj; omega
    gi_wp2_with (first | (refine wpListIn_load_R (round_fn l) rowTy (wanted_none rfl _) _ rfl rfl hr5 ?_) | (refine wpListIn_of_run (round_fn l) (fun c h => by cases h) (wanted_none rfl _) (exec_one_R rowTy zeroR Tryz.underlying30 _ rfl rfl hyo) ?_) | (refine wpListIn_append_R (round_fn l) (wanted_none rfl _) _ _ rfl Tryz.underlying30 infoR rfl rfl hOa hRo hLa hBa ?_; intro v8 w8 hO8 hG8 hB8; obtain ⟨A8, cap8, hv8, hc8, _⟩ := hO8.rep.form; have O8 : Only (fun j => ov.ownBlock = some j) _ w8 := Only.grown hG8 (fun j hj => hj); have b8 := O8.keeps p3a (fun h => hne _ h rfl); have q8 := cell_at b8 0 _ rfl; have z8 := free_at b8 0; subst hv8))
    have hel : (xs.take k ++ [y]).length = min k xs.length + 1 := by simp
    rw [hel] at hB8 hO8
    have hs8 := O8.size
    have hOl : w.heap.size < Wp.heap.size := (Array.getElem?_eq_some_iff.1 h3).1
    have hB9 : ∀ j, (Value.slice A8 (min k xs.length + 1) cap8).ownBlock = some j → ov.ownBlock = some j ∨ Wp.heap.size ≤ j := fun j hj => by
      rcases hB8 with h | h
      · exact .inl ((show ov.ownBlock = _ from h.symm).trans hj)
      · have e := (show some _ = _ from h.symm).trans hj
        rw [World.size_alloc] at e
        have := Option.some.inj e
        exact .inr (by omega)
    have hne9 : ∀ j, (Value.slice A8 (min k xs.length + 1) cap8).ownBlock = some j → ¬ j = w.heap.size := fun j hj e => by
      rcases hB9 j hj with h | h
      · exact hne j h e
      · omega
    have OS : Only (fun j => j = w.heap.size) w8 (w8.setCell ⟨w.heap.size, 0, none⟩ (Value.slice A8 (min k xs.length + 1) cap8)) := Only.set _ _ rfl
    have OA := (Only.fut (Fut.alloc Wp (.cells (Rw.cells y).toArray 27))).trans O8
    have OT : Only (fun j => s ≤ j ∨ j = w.heap.size) Wp (w8.setCell ⟨w.heap.size, 0, none⟩ (Value.slice A8 (min k xs.length + 1) cap8)) := (OA.mono (S' := fun j => s ≤ j ∨ j = w.heap.size) fun j _ hj => .inl (h2 j hj)).trans (OS.mono (S' := fun j => s ≤ j ∨ j = w.heap.size) fun j _ hj => .inr hj)
    have hst := OT.size
    refine ⟨⟨hst, fun j hj1 hj2 => ?_⟩, _, hO8.onlyR OS hne9, fun j hj => ?_, ?_, h4.then OT fun j hj hlt => ?_⟩
    · exact OT.block j (by omega) (by omega)
    · rcases hB9 j hj with h | h
      · exact h2 j h
      · omega
    · exact set_blk b8
    · rcases hj with h | h
      · omega
      · exact h
  case hdone =>
    rintro s W hs ⟨ov, h1, h2, h3, h4⟩ hK
    have c9 := cell_at h3 0 _ rfl
    rw [List.take_length] at h1
    go_wp2
    refine ⟨by simp, .inl ⟨_, _, rfl, run_takeDeferred hK, ?_⟩⟩
    have OP : Only (fun j => j = wl.heap.size) W (W.putObj wl.heap.size (.deferred none)) := Only.put _ _ rfl
    exact ⟨_, results_tmp rfl _ _ _, ov, rfl, h1.onlyR OP (fun j hj e => by have := h2 j hj; omega), (((Only.fut FL.out).trans (h4.mono (S' := fun j => w.heap.size ≤ j) fun j _ hj => by omega)).trans (OP.mono (S' := fun j => w.heap.size ≤ j) fun j _ hj => by omega)).toFut fun j hj => hj⟩
  case hstop => exact fun _ _ _ _ h _ => h.elim
end Go.Proofs.YtijdichfaofjaaaGreatDoor
/- Sorted. -/
namespace Go.Proofs.YtijdichfaofjaaaGreatDoor
open Go.RowKit Go.WideMaps Go.Shelf
set_option linter.unusedSimpArgs false
set_option linter.unusedVariables false

theorem sortR_any (w w1 : World) (hw : Fut w w1) (t : Value) (ts : List Rw) (h : OwnL 24 w.heap.size 27 RR w1 t ts) (hlen : ts.length < 4611686018427387904) :
    Calls Tryz.prog 73 #[t, .func (.func 28) #[] #[]] w1 fun x w2 => x = .returned (.tuple #[]) ∧ ∃ ts' : List Rw, ts'.Perm ts ∧ Sorted cmpR ts' ∧ OwnL 24 w.heap.size 27 RR w2 t ts' ∧ Fut w w2 := by
  by_cases hne : ts = []
  · subst hne
    have hr := h.rep
    obtain ⟨A, cap, rfl, hcl, hcm⟩ := hr.form
    have hn := AnyF.slices_SortFunc_none (P := Tryz.prog) { Tryz.sortR with } A cap (.func (.func 28) #[] #[]) w1
    change Calls Tryz.prog 73 _ _ _ at hn
    refine hn.mono ?_
    rintro x w2 ⟨rfl, rfl⟩
    exact ⟨rfl, [], List.Perm.refl _, List.Pairwise.nil, h, hw⟩
  · have eg : ∀ args w, (callFunc 28 args).run Tryz.prog w = .ok (.enter 28 args) w := enters_of Tryz.func28 (by kernel_rfl) rfl
    have hn := sort_rows Tryz.sortR Tryz.isAgg27 Tryz.sizeOf27 28 eg (fun x y W hx hy => Gr.sorted1_gr x y W hx hy) w w1 hw t ts h hne hlen
    change Calls Tryz.prog 73 _ _ _ at hn
    exact hn
set_option maxHeartbeats 400000 in
theorem collect_any {D : World → Prop} {w : World} {lb : Array Value} {xs : List Rw} (hl : xs.length ≤ 1407374883512) (hok : ∀ x ∈ xs, Rw.ok x)
    (hit : ∀ W, Fut w W → IterIf D Tryz.prog 74 lb xs.length (fun k => #[Rw.val (xs.getD k zeroRow)]) W) (hD : ∀ W, Fut w W → D W) :
    Calls Tryz.prog 72 #[.func (.func 74) #[] lb] w fun e w' => ∃ v, e = .returned v ∧ OwnL 24 w.heap.size 27 RR w' v xs ∧ Fut w w' := by
  have HA := Lib.hid (appendSeq_any hl hok hit hD)
  clear hl hok hit hD
  go_enter Tryz.func72, Tryz.ntmps72
  go_wp2_with fail
  refine HA.out.mono ?_
  rintro e w1 ⟨v, rfl, hO, f1⟩
  go_wp2
  go_ret
  exact ⟨v, rfl, hO, f1⟩
set_option maxHeartbeats 400000 in
theorem sortedFunc_any {D : World → Prop} {w : World} {lb : Array Value} {xs : List Rw} (hl : xs.length ≤ 1407374883512) (hok : ∀ x ∈ xs, Rw.ok x)
    (hit : ∀ W, Fut w W → IterIf D Tryz.prog 74 lb xs.length (fun k => #[Rw.val (xs.getD k zeroRow)]) W) (hD : ∀ W, Fut w W → D W) :
    Calls Tryz.prog 26 #[.func (.func 74) #[] lb, .func (.func 28) #[] #[]] w fun e w' => ∃ v ys, e = .returned v ∧ ys.Perm xs ∧ Sorted cmpR ys ∧ OwnL 24 w.heap.size 27 RR w' v ys ∧ Fut w w' := by
  have HA := Lib.hid (collect_any hl hok hit hD)
  clear hok hit hD
  go_enter Tryz.func26, Tryz.ntmps26
  go_wp2_with fail
  refine HA.out.mono ?_
  rintro e w1 ⟨v, rfl, hO, f1⟩
  go_wp2_with fail
  refine (sortR_any w w1 f1 v xs hO (by omega)).mono ?_
  rintro e w2 ⟨rfl, ys, hp, hs, hr, f2⟩
  go_wp2
  go_ret
  exact ⟨v, ys, rfl, hp, hs, hr, f2⟩
set_option maxHeartbeats 800000 in
set_option maxRecDepth 100000 in
theorem sorted_own {B : Nat} {w : World} {b pb mb : Nat} {lv : Value} {ar gone : Nat} {xs : List Rw} (h : RelI B w b pb mb lv ar gone xs) (hl : xs.length ≤ 1407374883512) :
    Calls Tryz.prog 7 #[.pointer (some ⟨b, 0, none⟩)] w fun e w' => ∃ v ys, e = .returned v ∧ ys.Perm xs ∧ Sorted cmpR ys ∧ OwnL 24 w.heap.size 27 RR w' v ys ∧ Fut w w' := by
  have H := Lib.hid h
  have c2 := cell_at h.blk 2 _ rfl
  have p0 := cell_at h.pl.blk 0 _ rfl
  have hR := Lib.hid h.pl.list.rep
  have hok := rows_ok h.pl.list.rep
  obtain ⟨A, cap, rfl, hcl, hcm⟩ := h.pl.form
  clear h
  go_enter Tryz.func7, Tryz.ntmps7
  go_wp2_with fail
  refine (there_any H.out).mono ?_
  rintro e w1 ⟨rfl, hw1⟩
  have hw1' := hw1.symm
  subst hw1'
  go_wp2_with fail
  refine (values_any _ _ ⟨_, _, _, rfl⟩).mono ?_
  rintro e w2 ⟨b2, rfl, hc2, f2⟩
  go_wp2_with fail
  refine (sortedFunc_any (D := fun W => SlRep 24 maxLen RR W (.slice A xs.length cap) xs) hl hok (fun W hW => values_iter (by unfold maxLen; omega) b2 (hR.out.fut RR.stays (f2.trans hW)) (hW.cell hc2)) (fun W hW => hR.out.fut RR.stays (f2.trans hW))).mono ?_
  rintro e w3 ⟨v, ys, rfl, hp, hs, hr, f3⟩
  go_wp2
  go_ret
  exact ⟨v, ys, rfl, hp, hs, hr.base f2.size, f2.trans f3⟩
theorem sorted_any {B : Nat} {w : World} {b pb mb : Nat} {lv : Value} {ar gone : Nat} {xs : List Rw} (h : RelI B w b pb mb lv ar gone xs) (hl : xs.length ≤ 1407374883512) :
    Calls Tryz.prog 7 #[.pointer (some ⟨b, 0, none⟩)] w fun e w' => ∃ v ys, e = .returned v ∧ ys.Perm xs ∧ Sorted cmpR ys ∧ SlRep 24 maxLen RR w' v ys ∧ Fut w w' :=
  (sorted_own h hl).mono fun _ _ ⟨v, ys, h1, h2, h3, h4, h5⟩ => ⟨v, ys, h1, h2, h3, h4.rep, h5⟩
end Go.Proofs.YtijdichfaofjaaaGreatDoor
/- A result that lies in a cell: a bool. -/
namespace Go.Proofs.YtijdichfaofjaaaGreatDoor
open Go.RowKit
set_option linter.unusedSimpArgs false
set_option linter.unusedVariables false

theorem results_cellB {fn : Func} {p : Tmp} {tmps : Array Value} {w : World} {g : Nat} {s : Bool} (h : fn.results = #[.cell p 4]) (hp : tmps.getD p undef = .pointer (some ⟨g, 0, none⟩)) (hc : w.cell? ⟨g, 0, none⟩ = some (.bool s)) :
    (results fn tmps).run Tryz.prog w = .ok (.bool s) w := by
  have hp' : tmps[p]?.getD undef = .pointer (some ⟨g, 0, none⟩) := by simpa using hp
  simp [results, h, hp', asAddr]
  simp [go_sem, hc]
end Go.Proofs.YtijdichfaofjaaaGreatDoor
/- RelationPicks, walked. -/
namespace Go.Proofs.YtijdichfaofjaaaGreatDoor
open Go.RowKit Go.WideMaps
set_option linter.unusedSimpArgs false
set_option linter.unusedVariables false

/-- The cells of a Pick. -/
def pickCells (v : Value) (m n : Nat) (x : Rw) : List Value := v :: .int .u32 m :: .int .u32 n :: Rw.cells x
theorem pick_row {w : World} {t : TypeId} {v : Value} {m n : Nat} {x : Rw} (hx : Rw.ok x) : RowAt (w.alloc (.cells (pickCells v m n x).toArray t)) w.heap.size 3 x := ⟨hx, fun j c hj => by
  refine cell_at (heap_alloc_new w _) (3 + j) c ?_
  simpa [pickCells, show 3 + j = j + 1 + 1 + 1 by omega] using hj⟩
theorem exec_alloc_R {w : World} {o : Oper} {a : Act} (ho : o.op = .alloc 27) : (execOp a.eval o).run Tryz.prog w = .ok (.value (.pointer (some ⟨w.heap.size, 0, none⟩))) (w.alloc (.cells (Rw.cells zeroRow).toArray 27)) := by
  unfold execOp
  rw [ho]
  kernel_rfl
theorem cells_getD {y : Rw} (hy : Rw.ok y) {q : Nat} (hq : q < 24) : (Rw.cells y)[q]? = some (.int .i32 (y.getD q 0)) := by
  have h : q < y.length := by rw [hy.1]; exact hq
  simp [Rw.cells, List.getD, h]
theorem pick_at {w : World} {A : Option Addr} {cap M m : Nat} {x y : Rw} {xs : List Rw} (H : SlRep 1 M RI w (.slice A (selL 4 m x xs).length cap) (selL 4 m x xs)) {k : Nat} (hk : k < xs.length) (hgd : xs.getD k zeroRow = y) (hy : Rw.ok y) (hx : Rw.ok x) :
    (fitB m y x 4 = true ∧ (selK 4 m x xs k).length < (selL 4 m x xs).length ∧ (selK 4 m x xs (k + 1)).length = (selK 4 m x xs k).length + 1 ∧ ∃ b o, A = some ⟨b, o, none⟩ ∧ w.cell? ⟨b, o + (selK 4 m x xs k).length, none⟩ = some (.int .i64 k)) ∨
    (fitB m y x 4 = false ∧ (selK 4 m x xs (k + 1)).length = (selK 4 m x xs k).length) := by
  rw [fit_cut (by omega) hy hx]
  by_cases he : cutL 4 m y = cutL 4 m x
  · obtain ⟨h1, h2, h3⟩ := selK_at (m := m) (ar := 4) (x := x) hk (by rw [hgd]; exact he)
    exact .inl ⟨decide_eq_true he, h1, h3, int_at H h2⟩
  · exact .inr ⟨decide_eq_false he, selK_off (by rw [hgd]; exact he)⟩
end Go.Proofs.YtijdichfaofjaaaGreatDoor
/- sameInts, sameRows. -/
namespace Go.Proofs.YtijdichfaofjaaaGreatDoor
open Go.RowKit Go.WideMaps Go.Shelf
set_option linter.unusedSimpArgs false
set_option linter.unusedVariables false
attribute [local go_sem] Oper.semAt_some

set_option maxHeartbeats 400000 in
set_option maxRecDepth 100000 in
theorem sameInts_any {w : World} {u v : Value} {xs : List Int} {M N : Nat} (ha : SlRep 1 M RI w u xs) (hb : SlRep 1 N RI w v xs) (hl : xs.length ≤ 17592186044416) :
    Calls Tryz.prog 9 #[u, v] w fun e w' => e = .returned (.bool true) ∧ Fut w w' := by
  have HA := Lib.hid ha
  have HB := Lib.hid hb
  obtain ⟨A, cap, rfl, hc1, _⟩ := ha.form
  obtain ⟨B, cap', rfl, hc2, _⟩ := hb.form
  clear ha hb
  go_enter Tryz.func9, Tryz.ntmps9
  go_wp2_with fail
  go_loopw [5] (fun i wr => ∃ k : Nat, k ≤ xs.length ∧ i = .int .i64 k ∧ Hid (Fut w wr)) (fun i _ => xs.length - (intOf i).toNat)
  case atStart => exact ⟨0, Nat.zero_le _, rfl, Lib.hid (Fut.refl _)⟩
  case round =>
    obtain ⟨k, hk, rfl, hG⟩ := hrel
    by_cases hlt : k < xs.length
    · have hltI : (k : Int) < xs.length := by omega
      have e1 : (0 : Int) ≤ k ∧ (k : Int) < xs.length := by omega
      obtain ⟨ga, oa, rfl, ca⟩ := int_at (HA.out.fut RI.stays hG.out) (List.getElem?_eq_getElem hlt)
      obtain ⟨gb, ob, rfl, cb⟩ := int_at (HB.out.fut RI.stays hG.out) (List.getElem?_eq_getElem hlt)
      generalize xs[k] = y at ca cb
      go_wp2_with fail
      refine wp_graph 9 [.d, .d, .d, .d, .d, .d, .d, .d, .d] (by kernel_rfl) (by kernel_rfl) (by kernel_rfl) ?_
      simp only [List.take_succ_cons, List.take_zero, List.drop_succ_cons, List.drop_zero, Exs]
      iterate 9 apply Exists.intro
      apply Run.valG (wanted_none rfl _)
      · intro w1 h1 hk
        have q1 := h1.cell ca; have q2 := h1.cell cb
        have hcw := fun b o => Below.cell (p := ⟨b, o, none⟩) h1
        go_simp; rfl
      simp only [Act.put, List.setIfInBounds_toArray, List.set_cons_succ, List.set_cons_zero, List.nil_append, List.cons_append]
      apply Run.valG (wanted_none rfl _)
      · intro w1 h1 hk
        have q1 := h1.cell ca; have q2 := h1.cell cb
        have hcw := fun b o => Below.cell (p := ⟨b, o, none⟩) h1
        go_simp; rfl
      simp only [Act.put, List.setIfInBounds_toArray, List.set_cons_succ, List.set_cons_zero, List.nil_append, List.cons_append]
      apply Run.valG (wanted_none rfl _)
      · intro w1 h1 hk
        have q1 := h1.cell ca; have q2 := h1.cell cb
        have hcw := fun b o => Below.cell (p := ⟨b, o, none⟩) h1
        go_simp; rfl
      simp only [Act.put, List.setIfInBounds_toArray, List.set_cons_succ, List.set_cons_zero, List.nil_append, List.cons_append]
      apply Run.valG (wanted_none rfl _)
      · intro w1 h1 hk
        have q1 := h1.cell ca; have q2 := h1.cell cb
        have hcw := fun b o => Below.cell (p := ⟨b, o, none⟩) h1
        go_simp; rfl
      simp only [Act.put, List.setIfInBounds_toArray, List.set_cons_succ, List.set_cons_zero, List.nil_append, List.cons_append]
      apply Run.valG (wanted_none rfl _)
      · intro w1 h1 hk
        have q1 := h1.cell ca; have q2 := h1.cell cb
        have hcw := fun b o => Below.cell (p := ⟨b, o, none⟩) h1
        go_simp; rfl
      simp only [Act.put, List.setIfInBounds_toArray, List.set_cons_succ, List.set_cons_zero, List.nil_append, List.cons_append]
      apply Run.valG (wanted_none rfl _)
      · intro w1 h1 hk
        have q1 := h1.cell ca; have q2 := h1.cell cb
        have hcw := fun b o => Below.cell (p := ⟨b, o, none⟩) h1
        go_simp; rfl
      simp only [Act.put, List.setIfInBounds_toArray, List.set_cons_succ, List.set_cons_zero, List.nil_append, List.cons_append]
      apply Run.valG (wanted_none rfl _)
      · intro w1 h1 hk
        have q1 := h1.cell ca; have q2 := h1.cell cb
        have hcw := fun b o => Below.cell (p := ⟨b, o, none⟩) h1
        go_simp; rfl
      simp only [Act.put, List.setIfInBounds_toArray, List.set_cons_succ, List.set_cons_zero, List.nil_append, List.cons_append]
      apply Run.valG (wanted_none rfl _)
      · intro w1 h1 hk
        have q1 := h1.cell ca; have q2 := h1.cell cb
        have hcw := fun b o => Below.cell (p := ⟨b, o, none⟩) h1
        go_simp; rfl
      simp only [Act.put, List.setIfInBounds_toArray, List.set_cons_succ, List.set_cons_zero, List.nil_append, List.cons_append]
      apply Run.valG (wanted_none rfl _)
      · intro w1 h1 hk
        have q1 := h1.cell ca; have q2 := h1.cell cb
        have hcw := fun b o => Below.cell (p := ⟨b, o, none⟩) h1
        go_simp; rfl
      simp only [Act.put, List.setIfInBounds_toArray, List.set_cons_succ, List.set_cons_zero, List.nil_append, List.cons_append]
      apply Run.done
      intro w2 h2 hk
      clear hk
      go_wp2
      go_roundw
      case rel => exact ⟨k + 1, by omega, by go_num, Lib.hid (hG.out.trans ((Fut.drew _).trans h2))⟩
      case measure => simp [intOf] <;> omega
    · obtain rfl : k = xs.length := by omega
      go_wp2
      go_ret
      exact ⟨rfl, hG.out⟩
set_option maxHeartbeats 400000 in
set_option maxRecDepth 100000 in
theorem sameRows_any {w : World} {u v : Value} {xs : List Rw} {M N : Nat} (ha : SlRep 24 M RR w u xs) (hb : SlRep 24 N RR w v xs) (hl : xs.length ≤ 1407374883512) :
    Calls Tryz.prog 10 #[u, v] w fun e w' => e = .returned (.bool true) ∧ Fut w w' := by
  have HA := Lib.hid ha
  have HB := Lib.hid hb
  obtain ⟨A, cap, rfl, hc1, _⟩ := ha.form
  obtain ⟨B, cap', rfl, hc2, _⟩ := hb.form
  clear ha hb
  go_enter Tryz.func10, Tryz.ntmps10
  go_wp2_with fail
  go_loopw [5] (fun i wr => ∃ k : Nat, k ≤ xs.length ∧ i = .int .i64 k ∧ Hid (Fut w wr)) (fun i _ => xs.length - (intOf i).toNat)
  case atStart => exact ⟨0, Nat.zero_le _, rfl, Lib.hid (Fut.refl _)⟩
  case round =>
    obtain ⟨k, hk, rfl, hG⟩ := hrel
    by_cases hlt : k < xs.length
    · have hltI : (k : Int) < xs.length := by omega
      have e1 : (0 : Int) ≤ k ∧ (k : Int) < xs.length := by omega
      obtain ⟨ga, oa, rfl, ra⟩ := rows_at (HA.out.fut RR.stays hG.out) hlt
      obtain ⟨gb, ob, rfl, rb⟩ := rows_at (HB.out.fut RR.stays hG.out) hlt
      generalize xs[k] = y at ra rb
      have hy := ra.1
      go_wp2_with fail
      refine wp_graph 9 [.d, .d, .d, .d, .d, .d, .d, .d, .d] (by kernel_rfl) (by kernel_rfl) (by kernel_rfl) ?_
      simp only [List.take_succ_cons, List.take_zero, List.drop_succ_cons, List.drop_zero, Exs]
      iterate 9 apply Exists.intro
      apply Run.valG (wanted_none rfl _)
      · intro w1 h1 hk
        have hg := (Fut.drew _).trans h1
        have hcw := fun b o => Below.cell (p := ⟨b, o, none⟩) h1
        go_simp; rfl
      simp only [Act.put, List.setIfInBounds_toArray, List.set_cons_succ, List.set_cons_zero, List.nil_append, List.cons_append]
      apply Run.valG (wanted_none rfl _)
      · intro w1 h1 hk
        have hg := (Fut.drew _).trans h1
        have hcw := fun b o => Below.cell (p := ⟨b, o, none⟩) h1
        go_simp; rfl
      simp only [Act.put, List.setIfInBounds_toArray, List.set_cons_succ, List.set_cons_zero, List.nil_append, List.cons_append]
      apply Run.valG (wanted_none rfl _)
      · intro w1 h1 hk
        have hg := (Fut.drew _).trans h1
        have hcw := fun b o => Below.cell (p := ⟨b, o, none⟩) h1
        go_simp; rfl
      simp only [Act.put, List.setIfInBounds_toArray, List.set_cons_succ, List.set_cons_zero, List.nil_append, List.cons_append]
      apply Run.valG (wanted_none rfl _)
      · intro w1 h1 hk
        have hg := (Fut.drew _).trans h1
        have hcw := fun b o => Below.cell (p := ⟨b, o, none⟩) h1
        exact exec_load_R rowTy _ rfl rfl (ra.fut hg)
      simp only [Act.put, List.setIfInBounds_toArray, List.set_cons_succ, List.set_cons_zero, List.nil_append, List.cons_append]
      apply Run.valG (wanted_none rfl _)
      · intro w1 h1 hk
        have hg := (Fut.drew _).trans h1
        have hcw := fun b o => Below.cell (p := ⟨b, o, none⟩) h1
        go_simp; rfl
      simp only [Act.put, List.setIfInBounds_toArray, List.set_cons_succ, List.set_cons_zero, List.nil_append, List.cons_append]
      apply Run.valG (wanted_none rfl _)
      · intro w1 h1 hk
        have hg := (Fut.drew _).trans h1
        have hcw := fun b o => Below.cell (p := ⟨b, o, none⟩) h1
        go_simp; rfl
      simp only [Act.put, List.setIfInBounds_toArray, List.set_cons_succ, List.set_cons_zero, List.nil_append, List.cons_append]
      apply Run.valG (wanted_none rfl _)
      · intro w1 h1 hk
        have hg := (Fut.drew _).trans h1
        have hcw := fun b o => Below.cell (p := ⟨b, o, none⟩) h1
        go_simp; rfl
      simp only [Act.put, List.setIfInBounds_toArray, List.set_cons_succ, List.set_cons_zero, List.nil_append, List.cons_append]
      apply Run.valG (wanted_none rfl _)
      · intro w1 h1 hk
        have hg := (Fut.drew _).trans h1
        have hcw := fun b o => Below.cell (p := ⟨b, o, none⟩) h1
        exact exec_load_R rowTy _ rfl rfl (rb.fut hg)
      simp only [Act.put, List.setIfInBounds_toArray, List.set_cons_succ, List.set_cons_zero, List.nil_append, List.cons_append]
      apply Run.valG (wanted_none rfl _)
      · intro w1 h1 hk
        have hg := (Fut.drew _).trans h1
        have hcw := fun b o => Below.cell (p := ⟨b, o, none⟩) h1
        exact exec_neq_R rowTy noGuard _ _ _ rfl rfl rfl hy hy
      simp only [Act.put, List.setIfInBounds_toArray, List.set_cons_succ, List.set_cons_zero, List.nil_append, List.cons_append]
      apply Run.done
      intro w2 h2 hk
      clear hk
      go_wp2
      go_roundw
      case rel => exact ⟨k + 1, by omega, by go_num, Lib.hid (hG.out.trans ((Fut.drew _).trans h2))⟩
      case measure => simp [intOf] <;> omega
    · obtain rfl : k = xs.length := by omega
      go_wp2
      go_ret
      exact ⟨rfl, hG.out⟩
end Go.Proofs.YtijdichfaofjaaaGreatDoor
/- The document's relation: what it holds; the calls that look. -/
namespace Go.Proofs.YtijdichfaofjaaaGreatDoor
open Go.RowKit Go.WideMaps
set_option linter.unusedSimpArgs false
set_option linter.unusedVariables false

def rfoot (b : Nat) (v : Value) (k : Nat) : Prop := k = b ∨ v.ownBlock = some k
end Go.Proofs.YtijdichfaofjaaaGreatDoor
/- The document's relation: place, Has, At, Add, Remove. -/
namespace Go.Proofs.YtijdichfaofjaaaGreatDoor
open Go.RowKit Go.WideMaps
set_option linter.unusedSimpArgs false
set_option linter.unusedVariables false

def posL (xs : List Rw) (x : Rw) : Int := if x ∈ xs then ((xs.idxOf x : Nat) : Int) else -1
theorem idxOf_le {x : Rw} : ∀ (xs : List Rw) (k : Nat) (h : k < xs.length), xs[k] = x → xs.idxOf x ≤ k
  | [], k, h, _ => absurd h (by simp)
  | a :: r, 0, _, e => by simp at e; subst e; simp
  | a :: r, k + 1, h, e => by
    have := idxOf_le r k (by simpa using h) (by simpa using e)
    rw [List.idxOf_cons]
    cases a == x <;> simp <;> omega
theorem has_pos (xs : List Rw) (x : Rw) : decide (0 ≤ posL xs x) = decide (x ∈ xs) := by
  unfold posL
  by_cases h : x ∈ xs <;> simp [h]
end Go.Proofs.YtijdichfaofjaaaGreatDoor
/- The document's relation: Add, Remove. -/
namespace Go.Proofs.YtijdichfaofjaaaGreatDoor
open Go.RowKit Go.WideMaps
set_option linter.unusedSimpArgs false
set_option linter.unusedVariables false

theorem erase_step {xs : List Rw} {k : Nat} (i : Nat) (hi : i < xs.length) : (xs.take (i + 1)).eraseIdx k = (xs.take i).eraseIdx k ++ if i = k then [] else [xs[i]] := by
  rw [List.take_succ_eq_append_getElem hi]
  rcases Nat.lt_trichotomy i k with h | h | h
  · rw [if_neg (by omega), List.eraseIdx_of_length_le (by simp; omega), List.eraseIdx_of_length_le (by simp; omega)]
  · subst h
    rw [if_pos rfl, List.append_nil, List.eraseIdx_append_of_length_le (by simp; omega), List.eraseIdx_of_length_le (l := xs.take i) (by simp; omega)]
    simp [show min i xs.length = i by omega]
  · rw [if_neg (by omega), List.eraseIdx_append_of_lt_length (by simp; omega)]
end Go.Proofs.YtijdichfaofjaaaGreatDoor
/- The document's relation: Fits, Select. -/
namespace Go.Proofs.YtijdichfaofjaaaGreatDoor
open Go.RowKit Go.WideMaps
set_option linter.unusedSimpArgs false
set_option linter.unusedVariables false

theorem fitB_step' (m : Nat) (y x : Rw) (q : Nat) : fitB m y x (q + 1) = (fitB m y x q && ((y.getD q 0 == x.getD q 0) || !m.testBit q)) := by
  rw [fitB_step]
  simp [List.getD]
theorem fitB_mono {m : Nat} {y x : Rw} {k : Nat} (h : fitB m y x k = false) : ∀ {n : Nat}, k ≤ n → fitB m y x n = false := by
  intro n hn
  induction hn with
  | refl => exact h
  | step _ ih => rw [fitB_step', ih]; rfl
end Go.Proofs.YtijdichfaofjaaaGreatDoor
/- Rows with their numbers, in lists: built, appended. -/
namespace Go.Proofs.YtijdichfaofjaaaGreatDoor
open Go.RowKit Go.WideMaps
set_option linter.unusedSimpArgs false
set_option linter.unusedVariables false

structure Nb where
  n : Int
  row : Rw
def Nb.cells (t : Nb) : List Value := .int .i64 t.n :: Rw.cells t.row
def RNb (_ : World) (cs : List Value) (t : Nb) : Prop := cs = t.cells ∧ Rw.ok t.row
theorem RNb.stays : Stays RNb := fun _ _ _ _ _ h => h
theorem RNb.one : ∀ (w : World) cs x, RNb w cs x → ∀ u ∈ cs, u.oneCell' = true := fun w cs x h u hu => by
  obtain ⟨rfl, h2⟩ := h
  rcases List.mem_cons.1 hu with rfl | hu
  · rfl
  · exact RR.one w _ x.row ⟨rfl, h2⟩ u hu
def zeroN : Value := .agg (.int .i64 0 :: Rw.cells zeroRow).toArray
def Nb.val (t : Nb) : Value := .agg t.cells.toArray
theorem numb_at {w : World} {A : Option Addr} {n cap M : Nat} {l : List Nb} (h : SlRep 25 M RNb w (.slice A n cap) l) {k : Nat} (hk : k < l.length) :
    ∃ b off, A = some ⟨b, off, none⟩ ∧ w.cell? ⟨b, off + k * 25, none⟩ = some (.int .i64 (l[k]).n) ∧ RowAt w b (off + k * 25 + 1) (l[k]).row := by
  obtain ⟨A1, cap1, hv, _, _, h3⟩ := h
  obtain ⟨b, off, cs, hA, hl, hc, hr, hok⟩ := h3 k _ (List.getElem?_eq_getElem hk)
  injection hv with hv _ _
  subst hr
  refine ⟨b, off, hv.trans hA, by have := hc 0 _ rfl; simpa using this, hok, fun j c hj => ?_⟩
  have := hc (j + 1) c (by simpa [Nb.cells] using hj)
  rwa [show off + (k * 25 + (j + 1)) = off + k * 25 + 1 + j by omega] at this
end Go.Proofs.YtijdichfaofjaaaGreatDoor
/- The document's relation: Select, Range. -/
namespace Go.Proofs.YtijdichfaofjaaaGreatDoor
open Go.RowKit Go.WideMaps
set_option linter.unusedSimpArgs false
set_option linter.unusedVariables false

theorem wpList_append_I {ops : Array Oper} {rest : List Oper} {Q : Exit → Act → World → Prop} {o : Oper} {a : Act} {B : Nat} {w : World} {v u : Value} {xs ys : List Int} {M : Nat} (hgd : Region.wanted o (yielded ops a.tmps) = true) (s x : Operand)
    (ho : o.op = .call { callee := .builtin .append, args := #[s, x], argTypes := #[33, 33] })
    (hs : a.eval s = v) (hx : a.eval x = u) (hown : OwnL 1 B 3 RI w v xs) (hu : SlRep 1 M RI w u ys) (hlen : xs.length + ys.length ≤ 17592186044416) (hbase : B ≤ w.heap.size)
    (h : ∀ v' w', OwnL 1 B 3 RI w' v' (xs ++ ys) → w.grownBy w' v.ownBlock → (v'.ownBlock = v.ownBlock ∨ v'.ownBlock = some w.heap.size) → wpList Tryz.prog ops Q rest (a.put o.dst v') w') : wpList Tryz.prog ops Q (o :: rest) a w := by
  obtain ⟨v', w', hr, h2, h3, h4⟩ := exec_append_I s x ho hs hx hown hu hlen hbase
  exact wpList_of_run hgd hr (h v' w' h2 h3 h4)
end Go.Proofs.YtijdichfaofjaaaGreatDoor
