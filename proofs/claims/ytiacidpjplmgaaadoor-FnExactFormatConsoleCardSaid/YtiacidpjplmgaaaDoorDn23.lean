/- Words of this session's own: code on the machine. -/
import Derived.Test.YtiacidpjplmgaaaDoorDn22
set_option linter.unusedVariables false
set_option linter.unusedSimpArgs false
namespace Go.Proofs.YtiacidpjplmgaaaDoorD
def C.heads : C → List Nat
  | .seq a b => a.heads ++ b.heads
  | .cond _ a b => a.heads ++ b.heads
  | .block _ a => a.heads
  | .loop n a => n :: a.heads
  | .cut n a => n :: a.heads
  | _ => []
section
variable {α : Type}
theorem beq_self (n : Nat) : Nat.beq n n = true := by simp
theorem beq_ne {m n : Nat} (h : m ≠ n) : Nat.beq m n = false := by
  cases hb : Nat.beq m n
  · rfl
  · exact absurd (Nat.eq_of_beq_eq_true hb) h
theorem rest_none {x : Cx} {orc : Nat → St → Option α} {n : Nat} : ∀ {c : C} {Kn Kr : St → Option α} {Kx : Nat → St → Option α}, n ∉ c.heads → rest x orc n c Kn Kx Kr = none
  | .skip, _, _, _, _ | .reg _ _ _, _, _, _, _ | .exit _, _, _, _, _ | .ret, _, _, _, _ | .bad _, _, _, _, _ => rfl
  | .seq a b, _, _, _, h | .cond _ a b, _, _, _, h => by
    simp only [C.heads, List.mem_append, not_or] at h
    unfold rest
    rw [rest_none h.1, rest_none h.2]
  | .block _ a, _, _, _, h => by
    unfold rest
    exact rest_none (by simpa [C.heads] using h)
  | .loop m a, _, _, _, h => by
    simp only [C.heads, List.mem_cons, not_or] at h
    unfold rest
    rw [beq_ne (fun e => h.1 e.symm)]
    exact rest_none h.2
  | .cut m a, _, _, _, h => by
    simp only [C.heads, List.mem_cons, not_or] at h
    unfold rest
    rw [beq_ne (fun e => h.1 e.symm)]
    exact rest_none h.2
theorem rest_some {x : Cx} {orc : Nat → St → Option α} {n : Nat} : ∀ {c : C} {Kn Kr : St → Option α} {Kx : Nat → St → Option α}, n ∈ c.heads → ∃ f, rest x orc n c Kn Kx Kr = some f
  | .skip, _, _, _, h | .reg _ _ _, _, _, _, h | .exit _, _, _, _, h | .ret, _, _, _, h | .bad _, _, _, _, h => by simp [C.heads] at h
  | .seq a b, Kn, Kr, Kx, h => by
    simp only [C.heads, List.mem_append] at h
    by_cases ha : n ∈ a.heads
    · obtain ⟨f, hf⟩ := rest_some (x := x) (orc := orc) (c := a) (Kn := fun s => evC x orc b s Kn Kx Kr) (Kr := Kr) (Kx := Kx) ha
      exact ⟨f, by unfold rest; rw [hf]⟩
    · obtain ⟨f, hf⟩ := rest_some (x := x) (orc := orc) (c := b) (Kn := Kn) (Kr := Kr) (Kx := Kx) (h.resolve_left ha)
      exact ⟨f, by unfold rest; rw [rest_none ha]; exact hf⟩
  | .cond _ a b, Kn, Kr, Kx, h => by
    simp only [C.heads, List.mem_append] at h
    by_cases ha : n ∈ a.heads
    · obtain ⟨f, hf⟩ := rest_some (x := x) (orc := orc) (c := a) (Kn := Kn) (Kr := Kr) (Kx := Kx) ha
      exact ⟨f, by unfold rest; rw [hf]⟩
    · obtain ⟨f, hf⟩ := rest_some (x := x) (orc := orc) (c := b) (Kn := Kn) (Kr := Kr) (Kx := Kx) (h.resolve_left ha)
      exact ⟨f, by unfold rest; rw [rest_none ha]; exact hf⟩
  | .block _ a, _, _, _, h => by
    unfold rest
    exact rest_some (by simpa [C.heads] using h)
  | .loop m a, Kn, Kr, Kx, h => by
    simp only [C.heads, List.mem_cons] at h
    unfold rest
    by_cases hm : m = n
    · subst hm; rw [beq_self]; exact ⟨_, rfl⟩
    · rw [beq_ne hm]; exact rest_some (h.resolve_left (fun e => hm e.symm))
  | .cut m a, Kn, Kr, Kx, h => by
    simp only [C.heads, List.mem_cons] at h
    unfold rest
    by_cases hm : m = n
    · subst hm; rw [beq_self]; exact ⟨_, rfl⟩
    · rw [beq_ne hm]; exact rest_some (h.resolve_left (fun e => hm e.symm))
end
/-! ### The least number -/
theorem exists_least {p : Nat → Prop} : ∀ n, p n → ∃ k, p k ∧ ∀ j, j < k → ¬ p j := by
  intro n
  induction n using Nat.strongRecOn with
  | _ n ih =>
    intro h
    by_cases hx : ∃ j, j < n ∧ p j
    · obtain ⟨j, hj, hp⟩ := hx; exact ih j hj hp
    · exact ⟨n, h, fun j hj hp => hx ⟨j, hj, hp⟩⟩
open Classical in
noncomputable def least (p : Nat → Prop) : Nat := if h : ∃ k, p k ∧ ∀ j, j < k → ¬ p j then h.choose else 0
theorem least_ok {p : Nat → Prop} {n : Nat} (h : p n) : p (least p) ∧ least p ≤ n := by
  have he := exists_least n h
  unfold least
  rw [dif_pos he]
  refine ⟨he.choose_spec.1, ?_⟩
  rcases Nat.lt_or_ge n he.choose with hl | hl
  · exact absurd h (he.choose_spec.2 n hl)
  · exact hl
section
variable {P : Program} {τ : TT} {F : FnText} {tbl : Nat → Tbl}
abbrev FnText.R (F : FnText) : Type := RT (tysL (F.rs ++ flatL (bxsL F.ps)))
abbrev FnText.cx (F : FnText) (τ : TT) (t : Tbl) : Cx := ⟨τ, t, F.nt, F.anns, F.bx⟩
/-- Code does what the plain words say. -/
theorem code_ok (hm : P.follows .mixedOrders = true) (hτ : TOk P τ) {fr : Fr} (hbx : fr.bx = F.bx) {r : F.R} : ∀ (c : C) (K0 : Nat) (Kn Kr : Nat → St → Option F.R) (Kx : Nat → Nat → St → Option F.R) (Q : Exit → Act → World → Prop),
    (∀ j, j ≤ K0 → TblOk P (tbl j)) → c.heads.Nodup →
    (∀ k n, n ∈ c.heads → rest (F.cx τ (tbl k)) (F.run τ tbl k) n F.code (F.fin τ) (fun _ _ => none) (F.fin τ) = rest (F.cx τ (tbl k)) (F.run τ tbl k) n c (Kn k) (Kx k) (Kr k)) →
    (∀ k, k ≤ K0 → ∀ s, Kn k s = some r → ∀ c a w, SR fr c F.nt (fun b => b < s.next) s.env s.heap a w → Q .normal a w) →
    (∀ k, k ≤ K0 → ∀ i s, Kx k i s = some r → ∀ c a w, SR fr c F.nt (fun b => b < s.next) s.env s.heap a w → Q (.exit i) a w) →
    (∀ k, k ≤ K0 → ∀ s, Kr k s = some r → ∀ c a w, SR fr c F.nt (fun b => b < s.next) s.env s.heap a w → Q .ret a w) →
    ∀ k, k ≤ K0 → ∀ s, evC (F.cx τ (tbl k)) (F.run τ tbl k) c s (Kn k) (Kx k) (Kr k) = some r → ∀ x a w, SR fr x F.nt (fun b => b < s.next) s.env s.heap a w → c.code.wp P Q a w := by
  intro c
  induction c with
  | skip =>
    intro K0 Kn Kr Kx Q hT hnd hloc hn hx hr k hk s he x a w H
    exact wp_skip (hn k hk s he x a w H)
  | reg id ops d =>
    intro K0 Kn Kr Kx Q hT hnd hloc hn hx hr k hk s he x a w H
    exact reg_ok hm hτ (hT k hk) he H (fun s' hK c' a' w' h => hn k hk s' hK c' a' w' h)
  | seq a b iha ihb =>
    intro K0 Kn Kr Kx Q hT hnd hloc hn hx hr k hk s he x ac w H
    simp only [C.heads] at hnd hloc
    obtain ⟨n1, n2, n3⟩ := List.nodup_append.1 hnd
    refine wp_seq (iha K0 (fun k s => evC (F.cx τ (tbl k)) (F.run τ tbl k) b s (Kn k) (Kx k) (Kr k)) Kr Kx (Exit.then (b.code.wp P Q) Q) hT n1 (fun k n hn => ?_) (fun k hk s he x a1 w H => ?_) hx hr k hk s he x ac w H)
    · rw [hloc k n (List.mem_append_left _ hn)]
      obtain ⟨f, hf⟩ := rest_some (x := F.cx τ (tbl k)) (orc := F.run τ tbl k) (c := a) (Kn := fun s => evC (F.cx τ (tbl k)) (F.run τ tbl k) b s (Kn k) (Kx k) (Kr k)) (Kr := Kr k) (Kx := Kx k) hn
      rw [hf]
      unfold rest
      rw [hf]
    · refine ihb K0 Kn Kr Kx Q hT n2 (fun k n hnn => ?_) hn hx hr k hk s he x a1 w H
      rw [hloc k n (List.mem_append_right _ hnn)]
      show rest _ _ n (.seq a b) _ _ _ = _
      rw [rest]
      rw [rest_none (fun h => n3 n h n hnn rfl)]
  | cond t a b iha ihb =>
    intro K0 Kn Kr Kx Q hT hnd hloc hn hx hr k hk s he x ac w H
    simp only [C.heads] at hnd hloc
    obtain ⟨n1, n2, n3⟩ := List.nodup_append.1 hnd
    unfold evC at he
    obtain ⟨v, h1, h2, h3⟩ := testK_ok he
    refine wp_cond (h3 (H.operand t)) ?_
    cases v with
    | true =>
      refine iha K0 Kn Kr Kx Q hT n1 (fun k n hnn => ?_) hn hx hr k hk s h1 x ac w H
      rw [hloc k n (List.mem_append_left _ hnn)]
      obtain ⟨f, hf⟩ := rest_some (x := F.cx τ (tbl k)) (orc := F.run τ tbl k) (c := a) (Kn := Kn k) (Kr := Kr k) (Kx := Kx k) hnn
      rw [hf, rest, hf]
    | false =>
      refine ihb K0 Kn Kr Kx Q hT n2 (fun k n hnn => ?_) hn hx hr k hk s h1 x ac w H
      rw [hloc k n (List.mem_append_right _ hnn), rest, rest_none (fun h => n3 n h n hnn rfl)]
  | block id a iha =>
    intro K0 Kn Kr Kx Q hT hnd hloc hn hx hr k hk s he x ac w H
    refine wp_block (iha K0 Kn Kr (fun k i s => match Nat.beq i id with | true => Kn k s | false => Kx k i s) (Exit.inBlock id Q) hT hnd hloc hn (fun k hk i s he x a w H => ?_) hr k hk s he x ac w H)
    unfold Exit.inBlock
    dsimp only
    split at he
    · rename_i hb
      rw [if_pos (Nat.eq_of_beq_eq_true hb)]
      exact hn k hk s he x a w H
    · rename_i hb
      rw [if_neg (fun e => by rw [e, beq_self] at hb; cases hb)]
      exact hx k hk i s he x a w H
  | loop n a iha =>
    intro K0 Kn Kr Kx Q hT hnd hloc hn hx hr k hk s he x ac w H
    simp only [C.heads, List.nodup_cons] at hnd
    obtain ⟨s1, h1, h2, c1, h3⟩ := norm_ok he hbx H
    let I : Nat → Act → World → Prop := fun k a w => k ≤ K0 ∧ ∃ (s : St) (c : Ctx), s.next = 1000 ∧ F.run τ tbl k n s = some r ∧ SR fr c F.nt (fun b => b < 1000) s.env s.heap a w
    refine wp_loop (fun a w => ∃ k, I k a w) (fun a w => least (fun k => I k a w)) ⟨k, hk, s1, c1, h2, h1, h3⟩ (fun a1 w1 ⟨k1, hk1⟩ => ?_)
    obtain ⟨⟨hl1, s2, c2, q1, q2, q3⟩, hl2⟩ := least_ok (p := fun k => I k a1 w1) hk1
    cases hlk : least (fun k => I k a1 w1) with
    | zero => rw [hlk] at q2; cases q2
    | succ k' =>
      rw [hlk] at q2 hl1
      have hst : F.run τ tbl (k' + 1) n s2 = F.step τ (tbl k') (F.run τ tbl k') n s2 := rfl
      rw [hst] at q2
      unfold FnText.step at q2
      rw [hloc k' n (by simp [C.heads]), rest, beq_self] at q2
      dsimp only at q2
      refine iha k' (fun k s => norm F.anns F.bx n s (F.run τ tbl k n)) Kr Kx (Exit.then (fun a' w' => (∃ k, I k a' w') ∧ least (fun k => I k a' w') < k' + 1) Q) (fun j hj => hT j (by omega)) hnd.2 (fun k m hmm => ?_) (fun k hk s he x a w H => ?_) (fun k hk => hx k (by omega)) (fun k hk => hr k (by omega)) k' (Nat.le_refl _) s2 q2 c2 a1 w1 (by rw [q1]; exact q3)
      · rw [hloc k m (by simp [C.heads, hmm]), rest, beq_ne (fun (e : n = m) => hnd.1 (e ▸ hmm))]
      · obtain ⟨s3, g1, g2, c3, g3⟩ := norm_ok he hbx H
        have hI : I k a w := ⟨by omega, s3, c3, g2, g1, g3⟩
        refine ⟨⟨k, hI⟩, ?_⟩
        have := (least_ok (p := fun k => I k a w) hI).2
        omega
  | cut n a iha =>
    intro K0 Kn Kr Kx Q hT hnd hloc hn hx hr k hk s he x ac w H
    simp only [C.heads, List.nodup_cons] at hnd
    obtain ⟨s1, h1, h2, c1, h3⟩ := norm_ok he hbx H
    cases k with
    | zero => cases h1
    | succ k' =>
      have hst : F.run τ tbl (k' + 1) n s1 = F.step τ (tbl k') (F.run τ tbl k') n s1 := rfl
      rw [hst] at h1
      unfold FnText.step at h1
      rw [hloc k' n (by simp [C.heads]), rest, beq_self] at h1
      dsimp only at h1
      refine iha K0 Kn Kr Kx Q hT hnd.2 (fun k m hmm => ?_) hn hx hr k' (by omega) s1 h1 c1 ac w (by rw [h2]; exact h3)
      rw [hloc k m (by simp [C.heads, hmm]), rest, beq_ne (fun (e : n = m) => hnd.1 (e ▸ hmm))]
  | exit id =>
    intro K0 Kn Kr Kx Q hT hnd hloc hn hx hr k hk s he x a w H
    exact wp_exit (hx k hk id s he x a w H)
  | ret =>
    intro K0 Kn Kr Kx Q hT hnd hloc hn hx hr k hk s he x a w H
    exact wp_ret (hr k hk s he x a w H)
  | bad c =>
    intro K0 Kn Kr Kx Q hT hnd hloc hn hx hr k hk s he x a w H
    cases he
end
end Go.Proofs.YtiacidpjplmgaaaDoorD
