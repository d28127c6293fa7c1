/- The law DependParts holds: the parts of any program, from below; asked again; the answers are lists of their own. No condition. -/
import Derived.Test.YtobabnpllokkaaaGreatDoorCards
import Derived.Test.YtobabnpllokkaaaGreatDoorTie
import Derived.SevenTiedAt
import Derived.Lay
import Derived.LaidOnce
import Derived.ChangeMaps5
import Derived.Test.YtobabnpllokkaaaGreatDoorP29
set_option linter.unusedSimpArgs false
set_option linter.unusedVariables false
namespace Go.Proofs.YtobabnpllokkaaaGreatDoor
open Go.RowKit Go.ChangeShapes Go.WideShapes Go.ChangeAt Go.ChangeMaps
set_option maxRecDepth 100000
theorem DependParts_own:ownKnob Tryz.prog.godebug=none:=by kernel_rfl
theorem DependParts_laidOut:laidOutB Tryz.prog=true:=by kernel_rfl
set_option maxRecDepth 100000 in
theorem DependParts_row_walk {H:Type} {enc:TypeId×Value→H} (W:World) (base:Nat) (args:Array Value) (ds:List (DataW H)) (p:List MemPlace)
    (hval:∀ (j:Nat) t v,(#[22]:Array Nat)[j]?=some t→args[j]?=some v→Value.okWide Tryz.prog W .any base t v)
    (hA:DataW.TrodAll enc Tryz.prog W 0 (fun _ => true) true [22] args.toList ds p) (hS:(DataW.weightsEach Tryz.prog [22] ds).all (fun n => decide (n≤reachBytes))=true)
    (hL:laidMet Tryz.prog Rows.dependPartsRow.laid W) :
    Calls Tryz.prog 3 args W fun e W' => e = .returned (.bool true)∧Fut W W':=by
 obtain ⟨v0,vs0,d0,ds0,p0,q0,hargs,rfl,rfl,h0,r0⟩:=trodAll_cons hA;obtain ⟨rfl,rfl,rfl⟩:=trodAll_nil r0;obtain rfl:args=#[v0]:=Array.toList_inj.1 hargs;have k0:=hval 0 22 v0 rfl rfl;have s0:=weights_arg hS 0 rfl rfl;clear hval hA hS;obtain ⟨l,hl⟩:=reads_arg rRus h0 s0;have hl:=arg_slice hl Tryz.underlying22 k0;exact parts_law _ l W hl (by decide) (pows_of_laid hL (by simp [Rows.dependPartsRow]))
set_option maxRecDepth 100000 in
theorem DependParts_lifted (os:Os) (started:os.Started) (H:Type) (enc:TypeId×Value→H) :
    ReturnsInHanded {} Tryz.checked os 3 .any (fun w args => (Rows.dependPartsSpec.pre enc Tryz.prog Tryz.f3 [] false w args∧laidMetH Tryz.prog Rows.dependPartsRow.laid w)∧sizedMet enc Tryz.prog Tryz.f3 (OpenSpec.ofChange Rows.dependPartsSpec) false w args)
     (Rows.dependPartsSpec.post enc Tryz.prog Tryz.f3 false true false false):=by
 refine returnsInHanded_of_change_and (C:=Tryz.checked) (X:=(fun w _ => laidMetH Tryz.prog Rows.dependPartsRow.laid w)) (fun _ _ _ hh h => h.of_heap hh) DependParts_own started (by kernel_rfl) Tryz.func3
  (ChangeSpec.witness_shaped (enc:=enc) (C:=Tryz.checked) (os:=os) (X:=(fun w _ => laidMetH Tryz.prog Rows.dependPartsRow.laid w)) false (World.laidAll Tryz.prog os Rows.dependPartsRow.laid) #[.slice none 0 0] 8 (World.laidAll_os _ _ _)
   (World.shaped_of_ZipB (by kernel_rfl) (by kernel_rfl)) (by kernel_rfl) (by kernel_rfl) (by kernel_rfl)
   (by rw [MakeChecks.laidMetH_plain _ _ _ (by kernel_rfl)];exact laidMet_laidAll _ (by kernel_rfl) (by kernel_rfl))) ?_
 intro W base args ds gs before hval0 hW _ hsz hL _;have hW':=hW;obtain ⟨p,q,hA0,hV,rfl,_,_⟩:=hW;have hA:DataW.TrodAll enc Tryz.prog W 0 (fun _ => true) true [22] args.toList ds p:=hA0;obtain ⟨rfl,rfl⟩:=trodVars_none hV;rw [List.append_nil] at hsz;rw [MakeChecks.laidMetH_plain _ _ _ (by kernel_rfl)] at hL;refine (DependParts_row_walk W base args ds p hval0 hA hsz hL).mono fun e W' ⟨he,hf⟩ => ?_;subst he;obtain ⟨v0,vs0,d0,ds0,p0,q0,_,rfl,_,_,r0⟩:=trodAll_cons hA;obtain ⟨_,rfl,_⟩:=trodAll_nil r0;exact ⟨_,rfl,law_post (tb:=4) DependParts_laidOut hW' rfl (by kernel_rfl) rfl Tryz.underlying4 rfl rfl rfl hf⟩
theorem DependParts_said:Rows.DependPartsSaid :=
 OpenClaim.holds_of_wide 3 Tryz.f3 rfl rfl rfl rfl rfl rfl rfl ⟨rfl,rfl,rfl,rfl,rfl⟩ rfl rfl rfl rfl rfl (by kernel_rfl) Tryz.func3 DependParts_facts
  (of_decide_eq_true (by kernel_rfl)) (by unfold Func.isWrapper;first|(rw [if_pos (by decide +kernel)];kernel_rfl)|(rw [if_neg (by decide +kernel)];exact ⟨rfl,rfl⟩))
  (fun os started H enc _ => DependParts_lifted os started H enc)
theorem DependParts_plain (f:FuncId) (fn:Func) (hf:Tryz.pinned.checked.prog.funcNamed "pedigree/pedigreelaw09.DependParts"=some f) (hfn:Tryz.pinned.checked.prog.funcs[f]?=some fn) :
    Rows.dependPartsCard.stood.looks=Tryz.pinned.checked.prog.looks []∧∀ (j:Nat) t,fn.params[j]?=some t→Tryz.pinned.checked.prog.wantsStandIn t=false:=by
 obtain rfl:f=3:=Option.some.inj ((show Tryz.prog.funcNamed "pedigree/pedigreelaw09.DependParts"=some 3 by kernel_rfl).symm.trans hf) |>.symm;obtain rfl:fn=Tryz.f3:=(Option.some.inj (Tryz.func3.symm.trans hfn)).symm;refine ⟨by kernel_rfl,fun j t ht => ?_⟩;have hall:(Tryz.f3.params.toList.all fun t => !Tryz.prog.wantsStandIn t)=true:=by kernel_rfl
 have:=List.all_eq_true.1 hall t (by simpa using Array.mem_of_getElem? ht);exact (by simpa using this:Tryz.prog.wantsStandIn t=false)
theorem DependParts_holds:Rows.DependPartsCardSaid :=
 Claim7.holds_tied_plain_at .later [] _ _ _ _ DependParts_said (fun _ h => by cases h) (by kernel_rfl) (fun _ h => by cases h) dependParts_row_tie rfl ⟨rfl,rfl⟩ (by kernel_rfl) rfl DependParts_plain (by kernel_rfl)
end Go.Proofs.YtobabnpllokkaaaGreatDoor
