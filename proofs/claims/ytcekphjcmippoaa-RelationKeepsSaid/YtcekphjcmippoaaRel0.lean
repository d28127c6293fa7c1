/- relation.Relation: what it is in memory; New, Arity, Len, Gone, At, Has. -/
import Derived.Test.YtcekphjcmippoaaRowW
import Derived.Test.YtcekphjcmippoaaProg
import Derived.Lib.Hide
import Derived.WalkSpells
import Derived.WalkLawsBesides
import Derived.WalkKit
import Derived.Laws.Pointers
import Derived.Deep.QuietTactic
import Derived.BigQuiet
namespace Go.Proofs.Ytcekphjcmippoaa
open Go.RowKit Go.WideMaps
set_option linter.unusedSimpArgs false
set_option linter.unusedVariables false

theorem rowTy : RowTy Try.prog 32 30 where
  A := ⟨Try.underlying32, by kernel_rfl, by kernel_rfl, by kernel_rfl⟩
  he := Try.underlying30
  hsz := ⟨Try.prog.types.size - 1, by kernel_rfl⟩
  hi := by kernel_rfl
def zeroRow : Rw := [0, 0, 0, 0, 0, 0, 0, 0, 0, 0, 0, 0, 0, 0, 0, 0, 0, 0, 0, 0, 0, 0, 0, 0]
theorem zeroRow_ok : Rw.ok zeroRow := ⟨rfl, fun a ha => by
  have : a = 0 := by simpa [zeroRow] using ha
  subst this; decide⟩
theorem infoR : (Try.prog.info? 32).map (fun i => (i.zero, i.size, i.bytes)) = some (some (Rw.val zeroRow), 24, 96) := by kernel_rfl

/-- Where a row stands. -/
def idx (xs : List Rw) (x : Rw) : Option Int := if x ∈ xs then some ((xs.idxOf x : Nat) : Int) else none
theorem idx_isSome (xs : List Rw) (x : Rw) : (idx xs x).isSome = decide (x ∈ xs) := by
  unfold idx
  by_cases h : x ∈ xs <;> simp [h]
theorem idx_push {xs : List Rw} {x : Rw} (h : x ∉ xs) : (fun y => if y = x then some ((xs.length : Nat) : Int) else idx xs y) = idx (xs ++ [x]) := by
  funext y
  unfold idx
  by_cases hy : y = x
  · subst hy
    simp [h, List.idxOf_append]
  · rw [if_neg hy]
    by_cases hm : y ∈ xs
    · simp [hm, List.idxOf_append]
    · simp [hm, hy]

/-- places. -/
structure PlI (B : Nat) (w : World) (pb mb : Nat) (lv : Value) (xs : List Rw) : Prop where
  blk : w.heap[pb]? = some (.cells #[lv, .map (some mb)] 77 (0, 0))
  list : OwnL 24 B 32 RR w lv xs
  map : MapR w mb (idx xs)
  base : B ≤ pb ∧ B ≤ mb
  nodup : xs.Nodup
def pfoot (pb mb : Nat) (lv : Value) (k : Nat) : Prop := k = pb ∨ k = mb ∨ lv.ownBlock = some k
/-- A relation. -/
structure RelI (B : Nat) (w : World) (b pb mb : Nat) (lv : Value) (ar gone : Nat) (xs : List Rw) : Prop where
  blk : w.heap[b]? = some (.cells #[.int .i64 ar, .int .i64 gone, .pointer (some ⟨pb, 0, none⟩)] 73 (0, 0))
  pl : PlI B w pb mb lv xs
  base : B ≤ b
  wide : ar ≤ 24
def foot (b pb mb : Nat) (lv : Value) (k : Nat) : Prop := k = b ∨ pfoot pb mb lv k
section
variable {B : Nat} {w w' : World} {b pb mb : Nat} {lv : Value} {ar gone : Nat} {xs : List Rw} {S : Nat → Prop}
theorem PlI.lt (h : PlI B w pb mb lv xs) : ∀ k, pfoot pb mb lv k → k < w.heap.size := by
  rintro k (rfl | rfl | hk)
  · exact (Array.getElem?_eq_some_iff.1 h.blk).1
  · exact h.map.lt
  · exact (h.list.block k hk).2
theorem PlI.ge (h : PlI B w pb mb lv xs) : ∀ k, pfoot pb mb lv k → B ≤ k := by
  rintro k (rfl | rfl | hk)
  · exact h.base.1
  · exact h.base.2
  · exact (h.list.block k hk).1
theorem RelI.lt (h : RelI B w b pb mb lv ar gone xs) : ∀ k, foot b pb mb lv k → k < w.heap.size := by
  rintro k (rfl | hk)
  · exact (Array.getElem?_eq_some_iff.1 h.blk).1
  · exact h.pl.lt k hk
theorem RelI.ge (h : RelI B w b pb mb lv ar gone xs) : ∀ k, foot b pb mb lv k → B ≤ k := by
  rintro k (rfl | hk)
  · exact h.base
  · exact h.pl.ge k hk
theorem OwnL.only {α : Type} {sz : Nat} {e : TypeId} {R : World → List Value → α → Prop} {v : Value} {ys : List α} (h : OwnL sz B e R w v ys) (hR : ∀ cs x, R w cs x → R w' cs x) (hg : Only S w w') (hne : ∀ k, v.ownBlock = some k → ¬ S k) : OwnL sz B e R w' v ys := by
  obtain ⟨css, h1, h2, h3, h4⟩ := h
  refine ⟨css, h1, fun i cs x hi hx => ⟨(h2 i cs x hi hx).1, hR _ _ (h2 i cs x hi hx).2⟩, h3, ?_⟩
  rcases h4 with h4 | ⟨g, cap, cur, a1, a2, a3, a4⟩
  · exact .inl h4
  · exact .inr ⟨g, cap, cur, a1, a2, hg.keeps a3 (hne g (by rw [a1]; rfl)), a4⟩
theorem PlI.only (h : PlI B w pb mb lv xs) (hg : Only S w w') (hne : ∀ k, pfoot pb mb lv k → ¬ S k) : PlI B w' pb mb lv xs where
  blk := hg.keeps h.blk (hne _ (.inl rfl))
  list := h.list.only (fun _ _ h => h) hg fun k hk => hne k (.inr (.inr hk))
  map := h.map.kept (hg.block mb h.map.lt (hne _ (.inr (.inl rfl))))
  base := h.base
  nodup := h.nodup
theorem RelI.only (h : RelI B w b pb mb lv ar gone xs) (hg : Only S w w') (hne : ∀ k, foot b pb mb lv k → ¬ S k) : RelI B w' b pb mb lv ar gone xs where
  blk := hg.keeps h.blk (hne _ (.inl rfl))
  pl := h.pl.only hg fun k hk => hne k (.inr hk)
  base := h.base
  wide := h.wide
theorem RelI.fut (h : RelI B w b pb mb lv ar gone xs) (hf : Fut w w') : RelI B w' b pb mb lv ar gone xs := h.only (S := fun _ => False) (Only.fut hf) fun _ _ h => h
theorem PlI.fut (h : PlI B w pb mb lv xs) (hf : Fut w w') : PlI B w' pb mb lv xs := h.only (S := fun _ => False) (Only.fut hf) fun _ _ h => h
theorem PlI.form (h : PlI B w pb mb lv xs) : ∃ A cap, lv = .slice A xs.length cap ∧ xs.length ≤ cap ∧ cap ≤ 9223372036854775807 := by
  obtain ⟨A, cap, h1, h2, h3⟩ := h.list.rep.form
  exact ⟨A, cap, h1, h2, by unfold maxLen at h3; omega⟩
theorem cell_at {g : Nat} {cs : Array Value} {t : TypeId} {fr : Nat × Nat} (h : w.heap[g]? = some (.cells cs t fr)) (j : Nat) (v : Value) (hj : cs[j]? = some v) : w.cell? ⟨g, j, none⟩ = some v := by
  simp [World.cell?, h, hj]
theorem free_at {g : Nat} {cs : Array Value} {t : TypeId} (h : w.heap[g]? = some (.cells cs t (0, 0))) (j : Nat) : w.frozen? ⟨g, j, none⟩ = false := by
  simp [World.frozen?, h]
end

/-! ### Is it there? Its arity, its rows, its number of those that are gone -/
set_option maxHeartbeats 400000 in
set_option maxRecDepth 100000 in
theorem there_any {B : Nat} {w : World} {b pb mb : Nat} {lv : Value} {ar gone : Nat} {xs : List Rw} (h : RelI B w b pb mb lv ar gone xs) :
    Calls Try.prog 30 #[.pointer (some ⟨b, 0, none⟩)] w fun e w' => e = .returned (.bool true) ∧ w' = w := by
  have c0 := cell_at h.blk 0 _ rfl
  have c1 := cell_at h.blk 1 _ rfl
  have c2 := cell_at h.blk 2 _ rfl
  have p0 := cell_at h.pl.blk 0 _ rfl
  obtain ⟨A, cap, rfl, hl, hm⟩ := h.pl.form
  clear h
  go_enter Try.func30, Try.ntmps30
  go_wp2
  go_ret
  exact ⟨rfl, rfl⟩
set_option maxHeartbeats 400000 in
set_option maxRecDepth 100000 in
theorem there_nil (w : World) : Calls Try.prog 30 #[.pointer none] w fun e w' => e = .returned (.bool false) ∧ w' = w := by
  go_enter Try.func30, Try.ntmps30
  go_wp2
  go_ret
  exact ⟨rfl, rfl⟩
set_option maxHeartbeats 400000 in
set_option maxRecDepth 100000 in
theorem arity_any {B : Nat} {w : World} {b pb mb : Nat} {lv : Value} {ar gone : Nat} {xs : List Rw} (h : RelI B w b pb mb lv ar gone xs) :
    Calls Try.prog 11 #[.pointer (some ⟨b, 0, none⟩)] w fun e w' => e = .returned (.int .i64 ar) ∧ w' = w := by
  have c0 := cell_at h.blk 0 _ rfl
  have c1 := cell_at h.blk 1 _ rfl
  have c2 := cell_at h.blk 2 _ rfl
  have p0 := cell_at h.pl.blk 0 _ rfl
  obtain ⟨A, cap, rfl, hl, hm⟩ := h.pl.form
  clear h
  go_enter Try.func11, Try.ntmps11
  go_wp2
  go_ret
  exact ⟨rfl, rfl⟩
set_option maxHeartbeats 400000 in
set_option maxRecDepth 100000 in
theorem arity_nil (w : World) : Calls Try.prog 11 #[.pointer none] w fun e w' => e = .returned (.int .i64 0) ∧ w' = w := by
  go_enter Try.func11, Try.ntmps11
  go_wp2
  go_ret
  exact ⟨rfl, rfl⟩
set_option maxHeartbeats 400000 in
set_option maxRecDepth 100000 in
theorem len_any {B : Nat} {w : World} {b pb mb : Nat} {lv : Value} {ar gone : Nat} {xs : List Rw} (h : RelI B w b pb mb lv ar gone xs) :
    Calls Try.prog 13 #[.pointer (some ⟨b, 0, none⟩)] w fun e w' => e = .returned (.int .i64 xs.length) ∧ w' = w := by
  have c0 := cell_at h.blk 0 _ rfl
  have c1 := cell_at h.blk 1 _ rfl
  have c2 := cell_at h.blk 2 _ rfl
  have p0 := cell_at h.pl.blk 0 _ rfl
  obtain ⟨A, cap, rfl, hl, hm⟩ := h.pl.form
  clear h
  go_enter Try.func13, Try.ntmps13
  go_wp2
  go_ret
  exact ⟨rfl, rfl⟩
set_option maxHeartbeats 400000 in
set_option maxRecDepth 100000 in
theorem len_nil (w : World) : Calls Try.prog 13 #[.pointer none] w fun e w' => e = .returned (.int .i64 0) ∧ w' = w := by
  go_enter Try.func13, Try.ntmps13
  go_wp2
  go_ret
  exact ⟨rfl, rfl⟩
set_option maxHeartbeats 400000 in
set_option maxRecDepth 100000 in
theorem gone_any {B : Nat} {w : World} {b pb mb : Nat} {lv : Value} {ar gone : Nat} {xs : List Rw} (h : RelI B w b pb mb lv ar gone xs) :
    Calls Try.prog 12 #[.pointer (some ⟨b, 0, none⟩)] w fun e w' => e = .returned (.int .i64 gone) ∧ w' = w := by
  have c0 := cell_at h.blk 0 _ rfl
  have c1 := cell_at h.blk 1 _ rfl
  have c2 := cell_at h.blk 2 _ rfl
  have p0 := cell_at h.pl.blk 0 _ rfl
  obtain ⟨A, cap, rfl, hl, hm⟩ := h.pl.form
  clear h
  go_enter Try.func12, Try.ntmps12
  go_wp2
  go_ret
  exact ⟨rfl, rfl⟩
set_option maxHeartbeats 400000 in
set_option maxRecDepth 100000 in
theorem gone_nil (w : World) : Calls Try.prog 12 #[.pointer none] w fun e w' => e = .returned (.int .i64 0) ∧ w' = w := by
  go_enter Try.func12, Try.ntmps12
  go_wp2
  go_ret
  exact ⟨rfl, rfl⟩
end Go.Proofs.Ytcekphjcmippoaa
