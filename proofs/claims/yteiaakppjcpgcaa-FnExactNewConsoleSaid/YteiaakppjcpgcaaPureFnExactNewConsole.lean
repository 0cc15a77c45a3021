/- The program's NewConsole returns what the reference's NewConsole returns, for every number of looms (a whole number of Go's kind int). -/
import Derived.Test.YteiaakppjcpgcaaPFnExactNewConsolex3
namespace Go.Proofs.Yteiaakppjcpgcaa.Pure
open Go.RowKit Go.Proofs.Yteiaakppjcpgcaa.PFnExactNewConsole Go.Proofs.YteiaakppjcpgcaaW.PrintWords Go.Proofs.YteiaakppjcpgcaaW.PrintLast

theorem FnExactNewConsole : laws_FnExactNewConsole.Pure := by
  intro a0 _
  refine ⟨5, ?_⟩
  have key : ∀ b : Bool, spec_l1In.f a0 1 4 = some b → laws_FnExactNewConsole.f 5 a0 = some true := by
    intro b hb
    have hi : impl_in.f a0 1 4 = some b := hb
    have hs : spec_NewShop.f a0 = some (if b = true then (0, a0, [], 0, true) else (0, 0, [], 0, false)) := by
      unfold spec_NewShop.f; rw [hb]; cases b <;> rfl
    have hn : impl_NewShop.f a0 = some (if b = true then (0, a0, [], 0, true) else (0, 0, [], 0, false)) := by
      unfold impl_NewShop.f; rw [hi]; cases b <;> rfl
    have h1 : spec_NewConsole.f a0 = some (if b = true then (0, a0, [], 0, ⟨#[]⟩, ⟨#[]⟩, 0, true) else (0, 0, [], 0, ⟨#[]⟩, ⟨#[]⟩, 0, false)) := by
      unfold spec_NewConsole.f; rw [hs]; cases b <;> rfl
    have h2 : impl_NewConsole.f a0 = some (if b = true then (0, a0, [], 0, ⟨#[]⟩, ⟨#[]⟩, 0, true) else (0, 0, [], 0, ⟨#[]⟩, ⟨#[]⟩, 0, false)) := by
      unfold impl_NewConsole.f; rw [hn]; cases b <;> rfl
    cases b <;> simp [laws_FnExactNewConsole.f, laws_FnExactNewConsole.j0, laws_FnExactNewConsole.j1, h1, h2, laws_eqConsole.f, laws_eqShop.f, laws_eqLog.f, laws_eqCarpetS.f, laws_eqCarpetS.l0, laws_markConsole.f, laws_markShop.f, laws_markCarpetS.f, laws_markCarpetS.l0, laws_heldConsole.f, laws_heldShop.f, laws_heldCarpetS.f, laws_heldCarpetS.l0]
  have : ∃ b, spec_l1In.f a0 1 4 = some b := by unfold spec_l1In.f; split <;> exact ⟨_, rfl⟩
  obtain ⟨b, hb⟩ := this
  exact key b hb

end Go.Proofs.Yteiaakppjcpgcaa.Pure
