-- Printed by this session's own program (wip/deep/drow.py); Lean checks it.
import Derived.Test.YtnggfjbmjlppgaaDoorTie
import Derived.Test.YtnggfjbmjlppgaaDoorCards
import Derived.Test.YtnggfjbmjlppgaaDoorRows
import Derived.Test.YtnggfjbmjlppgaaDoorPureFnCharts
import Derived.WalkKit
import Derived.ProofKit
import Derived.OpenShut
import Derived.ShutString
import Derived.ChangeOld
import Derived.Below
import Derived.SizedLaws
import Derived.ChangeSlices
import Derived.Carry
import Derived.LaidMore
import Derived.Lay
import Derived.LaidOnce
import Derived.SevenTiedAt
import Derived.LaidLaws
import Derived.LaidHandle
namespace Go.Proofs.YtnggfjbmjlppgaaDoor.fnCharts
open Go.ChangeShapes Go.WideShapes Go.ChangeAt Go.RowKit Go.Proofs.YtnggfjbmjlppgaaDoor Go.Proofs.YtnggfjbmjlppgaaDoor.DFnCharts Go.Proofs.YtnggfjbmjlppgaaDoorD
open Go.ChangeMaps (open_string shut_string)
set_option linter.unusedVariables false
theorem own : ownKnob Tryd.prog.godebug = none := by kernel_rfl
theorem laidOut : laidOutB Tryd.prog = true := by kernel_rfl
theorem opens5 : Opens Tryd.prog 5 (.int .u8) (fun s => (Lit.int .u8 s).wf = true) := Opens.int Tryd.underlying5 (by kernel_rfl)
theorem opens22 : Opens Tryd.prog 22 (.sl (.int .u8)) (fun s => s.length * 1 ≤ 140737488351232 ∧ ∀ y0 ∈ s, (Lit.int .u8 y0).wf = true) := Opens.slice (T := (.int .u8)) (ok := fun s => (Lit.int .u8 s).wf = true) Tryd.underlying22 (by kernel_rfl) opens5 1 (by kernel_rfl)
set_option maxRecDepth 100000 in
theorem lifted (os : Os) (started : os.Started) (H : Type) (enc : TypeId × Value → H) :
    ReturnsInHanded {} Tryd.checked os 3 .any (fun w args => (Rows.fnChartsSpec.pre enc Tryd.prog Tryd.f3 Rows.fnChartsRow.domain false w args ∧ laidMetH Tryd.prog Rows.fnChartsRow.laid w) ∧ sizedMet enc Tryd.prog Tryd.f3 (OpenSpec.ofChange Rows.fnChartsSpec) false w args) (Rows.fnChartsSpec.post enc Tryd.prog Tryd.f3 false true false false) := by
  refine returns_laid (C := Tryd.checked) (X := fun w _ => laidMetH Tryd.prog Rows.fnChartsRow.laid w) (fun _ _ _ hh h => h.of_heap hh) own started (by kernel_rfl) Tryd.func3
    (ChangeSpec.witness_shaped (enc := enc) (C := Tryd.checked) (os := os) (X := fun w _ => laidMetH Tryd.prog Rows.fnChartsRow.laid w) false (World.laidAll Tryd.prog os Rows.fnChartsRow.laid) #[.slice none 0 0] 8 (World.laidAll_os _ _ _) (World.shaped_of_ZipB (by kernel_rfl) (by kernel_rfl)) (by kernel_rfl) (by kernel_rfl) (by kernel_rfl)
      (by rw [MakeChecks.laidMetH_plain _ _ _ (by kernel_rfl)]; exact laidMet_laidAll _ (by kernel_rfl) (by kernel_rfl))) ?_
  intro W base args ds gs before hval0 hW hcnd hsz0 hL hsh _
  have hL1 : laidMet Tryd.prog Rows.fnChartsRow.laid W := by rw [MakeChecks.laidMetH_plain _ _ _ (by kernel_rfl)] at hL; exact hL
  obtain ⟨g1, g2⟩ := g_of hsh
  have hsz : (DataW.weightsEach Tryd.prog (Tryd.f3.params.toList ++ Rows.fnChartsSpec.plain.varTypes Tryd.prog) (ds ++ gs)).all (· ≤ reachBytes) = true := hsz0
  have hval : ∀ (j : Nat) t v, Tryd.f3.params[j]? = some t → args[j]? = some v → Value.okWide Tryd.prog W .any base t v := hval0
  have hW' := hW
  obtain ⟨p, q, hA0, hV, rfl, hfz, hnd⟩ := hW
  have hA : DataW.TrodAll enc Tryd.prog W 0 (fun _ => true) true Tryd.f3.params.toList args.toList ds p := hA0
  rw [Tryd.params3] at hA hval hsz
  obtain ⟨v0, vs0, d0, ds0, p0, q0, hargs, rfl, rfl, h0, r0⟩ := trodAll_cons hA
  obtain ⟨rfl, rfl, rfl⟩ := trodAll_nil r0
  obtain rfl : args = #[v0] := by cases args; simp_all
  obtain ⟨rfl, rfl⟩ := trodVars_none hV
  have hw0 : ∀ n_ ∈ d0.weights Tryd.prog 22, n_ ≤ 140737488351232 := fun n_ hn_ => of_decide_eq_true (List.all_eq_true.1 hsz n_ (DataW.weights_mem_each (j := 0) rfl rfl n_ hn_))
  have k0 := h0
  have lt0 : ∀ x ∈ p0, x.block < W.heap.size := by obtain ⟨m, hm⟩ := k0; exact DataW.trod_lt m _ _ _ hm
  obtain ⟨a0, len0, cap0, rfl⟩ := okWide_slice Tryd.underlying22 (hval 0 22 v0 rfl rfl)
  obtain ⟨fu0, hf0⟩ := h0
  obtain ⟨x0, hK0, hok0⟩ := opens22.2 _ _ _ _ _ _ _ _ hf0 hw0
  clear hA0 hval0 hsz0 hsz
  obtain ⟨kr, hr⟩ := pure_holds x0 hok0.1 hok0.2
  have hv : VRs (Ctx.law W) W [.val (.sl (.int .u8)) x0] [.slice a0 len0 cap0] := (VRs.cons' (VR.val' (T := (.sl (.int .u8))) (x := x0) hK0) VRs.nil')
  have hS : Sound Tryd.prog 3 ⟨[.d (.sl (.int .u8)) none], [.d .bool none], fun x => laws_FnCharts.f kr x⟩ := laws_FnCharts.sound kr
  have hvs : (inVL [.d (.sl (.int .u8)) none] (ofRT (tysL [.d (.sl (.int .u8)) none]) (x0 : RT (tysL [.d (.sl (.int .u8)) none]))) 0).vs = [.val (.sl (.int .u8)) x0] := by kernel_rfl
  have hhp : (inVL [.d (.sl (.int .u8)) none] (ofRT (tysL [.d (.sl (.int .u8)) none]) (x0 : RT (tysL [.d (.sl (.int .u8)) none]))) 0).heap = [] := by kernel_rfl
  have hrt : ofRT (tysL ([.d .bool none] ++ flatL (bxsL [.d (.sl (.int .u8)) none]))) (true : RT (tysL ([.d .bool none] ++ flatL (bxsL [.d (.sl (.int .u8)) none])))) = [⟨.bool, true⟩] := by kernel_rfl
  have hr' : (fun x => laws_FnCharts.f kr x : RT (tysL [.d (.sl (.int .u8)) none]) → Option (RT (tysL ([.d .bool none] ++ flatL (bxsL [.d (.sl (.int .u8)) none]))))) x0 = some true := hr
  refine (law_ok hS hr' hrt (by kernel_rfl) hvs hhp hv g1 g2).mono fun e W' ⟨he, bel⟩ => ?_
  subst he
  exact ⟨_, rfl, _, _, _, [], _, [], hW', trodAll_mk1 (shut_bool Tryd.underlying4 _), (trodAll_cons_mk (Below.trod laidOut (by kernel_rfl) (of_decide_eq_true (by kernel_rfl)) k0 bel lt0) trodAll_mk0), rfl, bel.frame _, fun h => by cases h⟩
theorem over : Rows.fnChartsRow.holds Tryd.pinned (OpenSpec.ofChange Rows.fnChartsSpec) :=
  OpenClaim.holds_of_wide 3 Tryd.f3 rfl rfl rfl rfl rfl rfl rfl ⟨rfl, rfl, rfl, rfl, rfl⟩ rfl rfl rfl rfl rfl (by kernel_rfl) Tryd.func3 (by kernel_rfl)
    (of_decide_eq_true (by kernel_rfl)) (by unfold Func.isWrapper; first | (rw [if_pos (by decide +kernel)]; kernel_rfl) | (rw [if_neg (by decide +kernel)]; exact ⟨rfl, rfl⟩))
    (fun os started H enc _ => lifted os started H enc)
theorem proved : Rows.FnChartsSaid := over
theorem carded : Rows.FnChartsCardSaid :=
  Claim7.holds_tied_plain_at .later [] [.data, .pinned] true (true, "8d777ab51bd9f39efbdd805f33e95791ec31fa78123f20794256488354ac6663") false proved (fun _ h => by cases h) (by kernel_rfl) (fun _ h => by cases h) fnCharts_row_tie rfl ⟨rfl, rfl⟩ (by kernel_rfl) rfl
    (fun f fn hf hfn => by
      obtain rfl : f = 3 := Option.some.inj ((show Tryd.prog.funcNamed Rows.fnChartsRow.func = some 3 by kernel_rfl).symm.trans hf) |>.symm
      obtain rfl : fn = Tryd.f3 := (Option.some.inj (Tryd.func3.symm.trans hfn)).symm
      exact ⟨by kernel_rfl, fun j t ht => by
        rw [Tryd.params3] at ht
        have hm : t ∈ [22] := by simpa using Array.mem_of_getElem? ht
        have hall : ([22].all fun u => !Tryd.prog.wantsStandIn u) = true := by kernel_rfl
        exact (show Tryd.prog.wantsStandIn t = false by simpa using List.all_eq_true.1 hall t hm)⟩)
    (by kernel_rfl)
#print axioms carded
end Go.Proofs.YtnggfjbmjlppgaaDoor.fnCharts
namespace Go.Proofs.YtnggfjbmjlppgaaDoor
/-- The card, under a short name, for the claim. -/
theorem fnCharts_holds : Rows.FnChartsCardSaid := fnCharts.carded
end Go.Proofs.YtnggfjbmjlppgaaDoor
