/- Words of this session's own: ParseInt by a walk. -/
import Derived.Test.YtiacidpjplmgaaaGreatDoorLib
import Derived.WalkKit
import Derived.Handy
set_option linter.unusedVariables false
set_option linter.unusedSimpArgs false
namespace Go.Proofs.YtiacidpjplmgaaaGreatDoorD
open Go.RowKit Go.Lib
def parseIntR (s : ByteArray) : Int × Bool :=
  match Lib.atoiAll s.data.toList with
  | .ok v => if (-999999 ≤ v ∧ v ≤ 999999) ∧ (⟨(Lib.itoa v).toArray⟩ : ByteArray) = s then (v, true) else (0, false)
  | _ => (0, false)
set_option maxRecDepth 100000 in
theorem parseInt_calls (s : ByteArray) (hs : s.size ≤ 1000000) (w : World) (g : GP w.heap) (gn : GN ≤ w.heap.size) :
    Calls Tryz.prog 137 #[.string s] w fun e w' => e = .returned (.tuple #[.int .i64 (parseIntR s).1, .bool (parseIntR s).2]) ∧ Below w.heap.size w w' := by
  have gB : ∀ W, Below w.heap.size w W → GP W.heap := fun W hB => GP_stable (fun k hk => hB.block k (by omega)) g
  obtain ⟨ev, he1, he2⟩ := gErr0 g
  obtain ⟨rv, hr1, hr2⟩ := gErr1 g
  unfold parseIntR
  cases h : Lib.atoiAll s.data.toList
  · rename_i v
    have hv := Lib.atoiAll_bounds h
    have hA : Calls Tryz.prog 165 #[.string s] w fun e w' => e = .returned (.tuple #[.int .i64 v, .nilIface]) ∧ Below w.heap.size w w' := (Tryz.strconv_Atoi_ok s (by omega) v h w).mono fun e w' ⟨he, hw⟩ => ⟨he, by
      rcases hw with rfl | ⟨t, rfl⟩
      · exact Below.refl _ _
      · exact Lib.bytesWorld_below w 5 t⟩
    have hI : ∀ W, Below w.heap.size w W → Calls Tryz.prog 117 #[.int .i64 v] W fun e w' => e = .returned (.string ⟨(Lib.itoa v).toArray⟩) ∧ Below w.heap.size W w' := fun W hB => (Tryz.strconv_Itoa v hv.1 hv.2 W (gTab (gB W hB))).mono fun e w' ⟨he, k, os, hw⟩ => ⟨he, by
      rw [hw]
      exact ⟨rfl, rfl, rfl, by show W.heap.size ≤ (W.heap ++ os).size; rw [Array.size_append]; omega, fun k hk => by
        have := hB.size
        show (W.heap ++ os)[k]? = _
        rw [Array.getElem?_append_left (by omega)]⟩⟩
    by_cases hc : (-999999 ≤ v ∧ v ≤ 999999) ∧ (⟨(Lib.itoa v).toArray⟩ : ByteArray) = s
    · dsimp only
      rw [if_pos hc]
      obtain ⟨⟨c1, c2⟩, c3⟩ := hc
      rw [c3] at hI
      dsimp only
      clear h c3
      go_enter Tryz.func137, Tryz.ntmps137
      go_wp2_with (first | (go_at_call 165; refine hA.mono ?_; rintro e w' ⟨rfl, h3⟩) | (go_at_call 117; refine (hI _ h3).mono ?_; rintro e w2 ⟨rfl, h4⟩) | go_in)
      go_ret2
      exact ⟨rfl, h3.trans h4⟩
    · dsimp only
      rw [if_neg hc]
      have hc' : -999999 ≤ v → v ≤ 999999 → ((⟨(Lib.itoa v).toArray⟩ : ByteArray).toList == s.toList) = false := fun a b => by
        cases hq : ((⟨(Lib.itoa v).toArray⟩ : ByteArray).toList == s.toList) with
        | false => rfl
        | true =>
          rw [beq_iff_eq, Lib.toList_data, Lib.toList_data] at hq
          exact absurd ⟨⟨a, b⟩, by
            cases s
            simp only [ByteArray.mk.injEq]
            simp only at hq
            rw [hq]⟩ hc
      clear hc
      generalize (⟨(Lib.itoa v).toArray⟩ : ByteArray) = t at *
      dsimp only
      clear h
      go_enter Tryz.func137, Tryz.ntmps137
      go_wp2_with (first | (go_at_call 165; refine hA.mono ?_; rintro e w' ⟨rfl, h3⟩) | (go_at_call 117; refine (hI _ h3).mono ?_; rintro e w2 ⟨rfl, h4⟩) | go_in)
      all_goals first
        | (go_ret2; exact ⟨rfl, h3⟩)
        | (go_ret2; exact ⟨rfl, h3.trans h4⟩)
        | (exfalso; rename_i q; have q2 := hc' (by assumption) (by assumption); simp [q2] at *)
  · have hS : Calls Tryz.prog 165 #[.string s] w fun e w' => ∃ N, e = .returned (.tuple #[.int .i64 (0), .iface 212 (.pointer (some ⟨N, 0, none⟩))]) ∧ w.heap.size ≤ N ∧ w'.heap[N]? = some (.cells #[.string ⟨#[65, 116, 111, 105]⟩, .string s, ev] 226 (0, 0)) ∧ Below w.heap.size w w' := Any.strconv_Atoi_syntax Tryz.laysC172 s (by omega) h ev w he1 he2
    go_enter Tryz.func137, Tryz.ntmps137
    go_wp2_with (first | (go_at_call 165; refine hS.mono ?_; rintro e w' ⟨N, rfl, h1, h2, h3⟩) | go_in)
    go_ret2
    exact ⟨rfl, h3⟩
  · go_enter Tryz.func137, Tryz.ntmps137
    go_wp2_with (first | (go_at_call 165; refine (Tryz.strconv_Atoi_range s (by omega) h rv _ hr1 hr2).mono ?_; rintro e w' ⟨N, rfl, h1, h2, h3⟩) | go_in)
    go_ret2
    exact ⟨rfl, h3⟩
end Go.Proofs.YtiacidpjplmgaaaGreatDoorD
