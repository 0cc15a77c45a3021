/- Words of this session's own: what is kept at a head, on the machine. -/
import Derived.Test.YtiacidpjplmgaaaDoorDn21
set_option linter.unusedVariables false
set_option linter.unusedSimpArgs false
namespace Go.Proofs.YtiacidpjplmgaaaDoorD
section
variable {P : Program} {τ : TT} {α : Type}
mutual
theorem VR.noids {c c0 : Ctx} {w : World} (hS : ∀ k, c.S k → c0.S k) : ∀ {v : V} {x : Value}, idsV v = [] → VR c w v x → VR c0 w v x
  | .undef, _, _, _ => by simp only [VR]
  | .nil, _, _, e => by simp only [VR] at e ⊢; exact e
  | .val t y, _, _, e => by simp only [VR] at e ⊢; exact e.move hS (fun _ _ => rfl)
  | .prop p d, _, _, e => by simp only [VR] at e ⊢; exact e
  | .ref b, _, h, _ => by simp [idsV] at h
  | .sub t b lo n, _, h, _ => by simp [idsV] at h
  | .ptr b off, _, h, _ => by simp [idsV] at h
  | .eptr t b i off, _, h, _ => by simp [idsV] at h
  | .rptr t y off, _, _, e => by
    simp only [VR] at e ⊢
    obtain ⟨a, cs, e, hs, hr, hc⟩ := e
    exact ⟨a, cs, e, hS _ hs, hr.move hS (fun _ _ => rfl), hc⟩
  | .cptr vs off, _, h, e => by
    simp only [VR] at e ⊢
    obtain ⟨g, cs, ty, e, hs, hh, hv⟩ := e
    exact ⟨g, cs, ty, e, hS _ hs, hh, VRs.noids hS (by simpa [idsV] using h) hv⟩
  | .agg l, _, h, e => by simp only [VR] at e ⊢; obtain ⟨cs, e, hv⟩ := e; exact ⟨cs, e, VRs.noids hS (by simpa [idsV] using h) hv⟩
  | .tup l, _, h, e => by simp only [VR] at e ⊢; obtain ⟨cs, e, hv⟩ := e; exact ⟨cs, e, VRs.noids hS (by simpa [idsV] using h) hv⟩
  | .fn f a k, _, h, e => by
    simp only [VR] at e ⊢
    obtain ⟨a', k', e, h1, h2⟩ := e
    have h' : idsL a = [] ∧ idsL k = [] := by simpa [idsV] using h
    exact ⟨a', k', e, VRs.noids hS h'.1 h1, VRs.noids hS h'.2 h2⟩
theorem VRs.noids {c c0 : Ctx} {w : World} (hS : ∀ k, c.S k → c0.S k) : ∀ {v : List V} {x : List Value}, idsL v = [] → VRs c w v x → VRs c0 w v x
  | [], _, _, e => by simp only [VRs] at e ⊢; exact e
  | v :: r, _, h, e => by
    simp only [VRs] at e ⊢
    obtain ⟨x, q, e, h1, h2⟩ := e
    have h' : idsV v = [] ∧ idsL r = [] := by simpa [idsL] using h
    exact ⟨x, q, e, VR.noids hS h'.1 h1, VRs.noids hS h'.2 h2⟩
end
/-- What the numbers that stand so far stand for. -/
def Known (c c0 : Ctx) (mp : List (Nat × Nat)) : Prop := ∀ b n, get mp b = some n → c0.M n ∧ c0.ρ n = c.ρ b
def OwnIn (h : Nat → Option Blk) (l : List Nat) : Prop := ∀ b ∈ l, ∃ x, h b = some x ∧ x.own = true
/-- New rows and boxes. -/
def Fresh (c c1 : Ctx) (w : World) (hp : Hp) (E : List (Nat × Nat)) : Prop := ∀ n x, (n, x) ∈ hp → ∃ y, x = some y ∧ y.own = true ∧ c1.M n ∧ BR c1 w n y ∧ ∀ g, vblk (c1.ρ n) = some g → ∃ d, (n, d) ∈ E ∧ vblk (c.ρ d) = some g
def Goes (h : Nat → Option Blk) (m m' : NmS) (mp us rd : List Nat) (hp : Hp) (mp' : List (Nat × Nat)) : Prop :=
  m' = ⟨mp' ++ m.mp, us ++ m.us, rd ++ m.rd, hp ++ m.heap⟩ ∧ mp = mp'.map (·.1) ∧ OwnIn h (mp ++ us) ∧ OwnIn h rd
theorem Known.ext {c c0 : Ctx} {mp : List (Nat × Nat)} (h : Known c c0 mp) {n b : Nat} {v : Value} (hn : ¬ c0.M n) (hv : v = c.ρ b) : Known c (c0.ext n v) ((b, n) :: mp) := fun d k hd => by
  rw [get_cons] at hd
  split at hd
  · rename_i e; subst e; cases hd
    exact ⟨.inr rfl, by rw [Ctx.ext_at, hv]⟩
  · obtain ⟨h1, h2⟩ := h d k hd
    refine ⟨.inl h1, ?_⟩
    show (if k = n then v else c0.ρ k) = _
    have hne : ¬ k = n := fun e => hn (by rw [← e]; exact h1)
    rw [if_neg hne, h2]
theorem Known.to {c c0 c1 : Ctx} {mp : List (Nat × Nat)} {w w' : World} (h : Known c c0 mp) (ht : c0.To c1 w w') : Known c c1 mp := fun b n hb => by
  obtain ⟨h1, h2⟩ := h b n hb
  exact ⟨ht.M _ h1, (ht.ρ _ h1).trans h2⟩
theorem Fresh.to {c c1 c2 : Ctx} {w : World} {hp : Hp} {E E' : List (Nat × Nat)} (h : Fresh c c1 w hp E) (ht : c1.To c2 w w) (hE : ∀ x ∈ E, x ∈ E') : Fresh c c2 w hp E' := fun n x hx => by
  obtain ⟨y, e, ho, hM, hb, hg⟩ := h n x hx
  refine ⟨y, e, ho, ht.M _ hM, hb.to ht hM (fun _ _ _ => rfl), fun g hgg => ?_⟩
  rw [ht.ρ n hM] at hgg
  obtain ⟨d, hd, h2⟩ := hg g hgg
  exact ⟨d, hE _ hd, h2⟩
theorem OwnIn.append {h : Nat → Option Blk} {a b : List Nat} (ha : OwnIn h a) (hb : OwnIn h b) : OwnIn h (a ++ b) := fun d hd => (List.mem_append.1 hd).elim (ha d) (hb d)
theorem Rows.ownIn {h : Nat → Option Blk} {f : List Nat} (hf : Rows h f) : OwnIn h f := fun b hb => by
  obtain ⟨e, t, xs, hx⟩ := hf b hb
  exact ⟨_, hx, rfl⟩
/-- A new own row. -/
theorem row_new {c c0 : Ctx} {w : World} {val : Value} {e n : Nat} {t : Ty} {y : List t.D} {inner : List Value} {E : List (Nat × Nat)} (hS : ∀ k, c.S k → c0.S k) (hn : ¬ c0.M n) (hf : Flat (Rd c.S w t) y inner) (ho : w.ownsRow 0 e t.cells val y.length inner) (hE : ∀ g, vblk val = some g → ∃ d, (n, d) ∈ E ∧ vblk (c.ρ d) = some g) :
    c0.To (c0.ext n val) w w ∧ VR (c0.ext n val) w (.ref n) val ∧ Fresh c (c0.ext n val) w [(n, some (.row e t y))] E := by
  refine ⟨.ext hn (fun _ _ => rfl), ?_, fun k x hx => ?_⟩
  · simp only [VR]
    exact ⟨.inr rfl, (Ctx.ext_at _ _ _).symm, own_form ho⟩
  · simp only [List.mem_singleton, Prod.mk.injEq] at hx
    obtain ⟨rfl, rfl⟩ := hx
    refine ⟨_, rfl, rfl, .inr rfl, ⟨inner, hf.imp (fun _ _ h => h.move hS (fun _ _ => rfl)), by rw [Ctx.ext_at]; exact ho⟩, fun g hg => ?_⟩
    rw [Ctx.ext_at] at hg
    exact hE g hg
theorem own_ref {h : Nat → Option Blk} {e b : Nat} {t : Ty} {K : List t.D → List Nat → Option α} {r : α} (he : ownAs h e (.sl t) (.ref b) K = some r) : ∃ x, h b = some x ∧ x.own = true := by
  unfold ownAs at he
  dsimp only at he
  split at he
  · rename_i hb; exact ⟨_, hb, rfl⟩
  · cases he
theorem own_sub {h : Nat → Option Blk} {e b lo n : Nat} {s t : Ty} {K : List t.D → List Nat → Option α} {r : α} (he : ownAs h e (.sl t) (.sub s b lo n) K = some r) : ∃ x, h b = some x ∧ x.own = true := by
  unfold ownAs at he
  dsimp only at he
  split at he
  · split at he
    · rename_i hb; exact ⟨_, hb, rfl⟩
    · cases he
  · cases he
def GoOk (h : Nat → Option Blk) (m m' : NmS) (R : Ctx → World → Ctx → Prop) (R' : Ctx → World → Prop) : Prop :=
  ∃ mp us rd hp mp', Goes h m m' mp us rd hp mp' ∧
    ∀ {F : Fr} {c : Ctx} {w : World} {hq : Hp} {c0 : Ctx}, HR F c w hq → (∀ b x, h b = some x → hget hq b = some x) → R' c w → (∀ k, c.S k → c0.S k) → (∀ b ∈ rd, ∀ g, vblk (c.ρ b) = some g → c0.S g) → Known c c0 m.mp → (∀ n ∈ hp.map (·.1), ¬ c0.M n) → (hp.map (·.1)).Nodup →
      ∃ c1 E, c0.To c1 w w ∧ c1.S = c0.S ∧ (∀ b, c1.M b → c0.M b ∨ b ∈ hp.map (·.1)) ∧ R c w c1 ∧ Known c c1 m'.mp ∧ Fresh c c1 w hp E ∧ (E.map (·.2)).Perm (mp ++ us)
theorem GoOk.none {h : Nat → Option Blk} {m : NmS} {R : Ctx → World → Ctx → Prop} {R' : Ctx → World → Prop} (hR : ∀ c w c0, (∀ k, c.S k → c0.S k) → Known c c0 m.mp → R' c w → R c w c0) : GoOk h m m R R' := by
  refine ⟨[], [], [], [], [], ⟨rfl, rfl, (by intro b hb; cases hb), (by intro b hb; cases hb)⟩, fun {F c w hq c0} H hh hv hS hrd hK hn hnd => ⟨c0, [], .refl c0 w, rfl, fun b hb => .inl hb, hR c w c0 hS hK hv, hK, (by intro n x hx; cases hx), .refl _⟩⟩
theorem GoOk.comp {h : Nat → Option Blk} {m m1 m2 : NmS} {R1 R2 : Ctx → World → Ctx → Prop} {R1' R2' : Ctx → World → Prop} (h1 : GoOk h m m1 R1 R1') (h2 : GoOk h m1 m2 R2 R2') (hR : ∀ c w c1 c2, c1.To c2 w w → R1 c w c1 → R1 c w c2) :
    GoOk h m m2 (fun c w c1 => R1 c w c1 ∧ R2 c w c1) (fun c w => R1' c w ∧ R2' c w) := by
  obtain ⟨mp1, us1, rd1, hp1, mp1', g1, g2'⟩ := h1
  obtain ⟨mp2, us2, rd2, hp2, mp2', g3, g4'⟩ := h2
  refine ⟨mp2 ++ mp1, us2 ++ us1, rd2 ++ rd1, hp2 ++ hp1, mp2' ++ mp1', ⟨?_, ?_, ?_, g3.2.2.2.append g1.2.2.2⟩, fun {F c w hq c0} H hh hv hS hrd hK hn hnd => ?_⟩
  · rw [g3.1, g1.1]; simp
  · rw [g3.2.1, g1.2.1]; simp
  · have a1 := g3.2.2.1; have a2 := g1.2.2.1
    intro d hd
    simp only [List.append_assoc, List.mem_append] at hd
    rcases hd with hd | hd | hd | hd
    · exact a1 d (List.mem_append_left _ hd)
    · exact a2 d (List.mem_append_left _ hd)
    · exact a1 d (List.mem_append_right _ hd)
    · exact a2 d (List.mem_append_right _ hd)
  · rw [List.map_append] at hn hnd
    obtain ⟨n1, n2, n3⟩ := List.nodup_append.1 hnd
    obtain ⟨c1, E, k1, k2, k3, k4, k5, k6, k7⟩ := g2' H hh hv.1 hS (fun b hb => hrd b (List.mem_append_right _ hb)) hK (fun d hd => hn d (List.mem_append_right _ hd)) n2
    obtain ⟨c2, E2, l1, l2, l3, l4, l5, l6, l7⟩ := g4' (c0 := c1) H hh hv.2 (fun k hk => by rw [k2]; exact hS k hk) (fun b hb g hg => by rw [k2]; exact hrd b (List.mem_append_left _ hb) g hg) k5 (fun d hd hM => by
      rcases k3 d hM with h | h
      · exact hn d (List.mem_append_left _ hd) h
      · exact n3 d hd d h rfl) n1
    refine ⟨c2, E2 ++ E, k1.trans l1, l2.trans k2, fun b hb => ?_, ⟨hR _ _ _ _ l1 k4, l4⟩, l5, fun d y hy => ?_, ?_⟩
    · rw [List.map_append]
      rcases l3 b hb with h | h
      · exact (k3 b h).imp id (fun h => List.mem_append_right _ h)
      · exact .inr (List.mem_append_left _ h)
    · rcases List.mem_append.1 hy with hy | hy
      · obtain ⟨z, z1, z2, z3, z4, z5⟩ := l6 d y hy
        refine ⟨z, z1, z2, z3, z4, fun g hg => ?_⟩
        obtain ⟨u, u1, u2⟩ := z5 g hg
        exact ⟨u, List.mem_append_left _ u1, u2⟩
      · exact (k6.to l1 (fun x hx => List.mem_append_right _ hx)) d y hy
    · rw [List.map_append]
      exact (l7.append k7).trans pk_perm
theorem GoOk.imp {h : Nat → Option Blk} {m m' : NmS} {R R2 : Ctx → World → Ctx → Prop} {R' R2' : Ctx → World → Prop} (H : GoOk h m m' R R') (h1 : ∀ c w c1, R c w c1 → R2 c w c1) (h2 : ∀ c w, R2' c w → R' c w) : GoOk h m m' R2 R2' := by
  obtain ⟨mp, us, rd, hp, mp', g1, g2⟩ := H
  refine ⟨mp, us, rd, hp, mp', g1, fun {F c w hq c0} H hh hv hS hrd hK hn hnd => ?_⟩
  obtain ⟨c1, E, k1, k2, k3, k4, k5⟩ := g2 H hh (h2 _ _ hv) hS hrd hK hn hnd
  exact ⟨c1, E, k1, k2, k3, h1 _ _ _ k4, k5⟩
mutual
theorem go_ok {h : Nat → Option Blk} : ∀ {nm : Nm} {v : V} {m : NmS} {α : Type} {K : V → NmS → Option α} {r : α}, nm.go h v m K = some r →
    ∃ v' m', K v' m' = some r ∧ ∀ val, GoOk h m m' (fun c w c1 => VR c1 w v' val) (fun c w => VR c w v val)
  | .rd t, v, m, _, K, r, he => by
    unfold Nm.go at he
    obtain ⟨x, f, h1, h2, h3, h4, h5⟩ := leafAs_ok he
    refine ⟨_, _, h1, fun val => ⟨[], [], f, [], [], ⟨rfl, rfl, (by intro b hb; cases hb), h3.ownIn⟩, fun {F c w hq c0} H hh hv hS hrd hK hn hnd => ⟨c0, [], .refl c0 w, rfl, fun b hb => .inl hb, ?_, hK, (by intro n x hx; cases hx), .refl _⟩⟩⟩
    simp only [VR]
    exact h5 (fun b x hb => (H.blk b x (hh b x hb)).2) hv ⟨hS, hrd⟩
  | .own e t n, v, m, _, K, r, he => by
    unfold Nm.go at he
    split at he
    · rename_i b
      split at he
      · rename_i n' hn'
        split at he
        case h_2 => cases he
        rename_i hb
        have := Nat.eq_of_beq_eq_true hb
        subst this
        refine ⟨_, _, he, fun val => GoOk.none (fun c w c0 hS hK hv => ?_)⟩
        simp only [VR] at hv ⊢
        obtain ⟨k1, k2⟩ := hK b n hn'
        exact ⟨k1, by rw [k2]; exact hv.2⟩
      · have hob := own_ref he
        obtain ⟨y, k, h1, h2, h3, h4, h4', h5⟩ := ownAs_ok he
        refine ⟨_, _, h1, fun val => ⟨[b], [], [], [(n, some (.row e t y))], [(b, n)], ⟨rfl, rfl, (by intro d hd; simp at hd; subst hd; exact hob), (by intro d hd; cases hd)⟩, fun {F c w hq c0} H hh hv hS hrd hK hn hnd => ?_⟩⟩
        obtain ⟨inner, hf, ho, hs1, hs2⟩ := h5 H hh hv
        have hfr := hn n (by simp)
        have hval : val = c.ρ b := by simp only [VR] at hv; exact hv.2.1
        obtain ⟨r1, r2, r3⟩ := row_new (E := [(n, b)]) hS hfr hf ho (fun g hg => ⟨b, by simp, by rw [← hval]; exact hg⟩)
        exact ⟨_, [(n, b)], r1, rfl, fun d hd => hd.imp id (fun e => by simp [e]), r2, hK.ext hfr hval, r3, .refl _⟩
    · rename_i s b lo k0
      have hob := own_sub he
      obtain ⟨y, k, h1, h2, h3, h4, h4', h5⟩ := ownAs_ok he
      refine ⟨_, _, h1, fun val => ⟨[], [b], [], [(n, some (.row e t y))], [], ⟨rfl, rfl, (by intro d hd; simp at hd; subst hd; exact hob), (by intro d hd; cases hd)⟩, fun {F c w hq c0} H hh hv hS hrd hK hn hnd => ?_⟩⟩
      obtain ⟨inner, hf, ho, hs1, hs2⟩ := h5 H hh hv
      have hfr := hn n (by simp)
      obtain ⟨r1, r2, r3⟩ := row_new (E := [(n, b)]) hS hfr hf ho (fun g hg => by
        obtain ⟨d, hd, hdg⟩ := hs1 g hg
        have : d = b := by simpa [idsV] using h4 d hd
        subst this
        exact ⟨d, by simp, hdg⟩)
      exact ⟨_, [(n, b)], r1, rfl, fun d hd => hd.imp id (fun e => by simp [e]), r2, hK.to r1, r3, .refl _⟩
    · refine ⟨_, _, he, fun val => ⟨[], [], [], [(n, some (.row e t []))], [], ⟨rfl, rfl, (by intro d hd; cases hd), (by intro d hd; cases hd)⟩, fun {F c w hq c0} H hh hv hS hrd hK hn hnd => ?_⟩⟩
      simp only [VR] at hv
      subst hv
      have hfr := hn n (by simp)
      obtain ⟨r1, r2, r3⟩ := row_new (c := c) (E := []) (e := e) (t := t) (y := []) (inner := []) hS hfr rfl ⟨by simp, .inl ⟨rfl, rfl⟩⟩ (fun g hg => by cases hg)
      exact ⟨_, [], r1, rfl, fun d hd => hd.imp id (fun e => by simp [e]), r2, hK.to r1, r3, .refl _⟩
    · cases he
  | .ag l, v, m, _, K, r, he => by
    unfold Nm.go at he
    split at he
    case h_2 => cases he
    rename_i vs
    obtain ⟨ws, m', h1, h2⟩ := goL_ok he
    refine ⟨_, _, h1, fun val => ?_⟩
    by_cases hag : ∃ cs : Array Value, val = .agg cs
    · obtain ⟨cs, rfl⟩ := hag
      obtain ⟨mp, us, rd, hp, mp', g1, g2⟩ := h2 cs.toList
      refine ⟨mp, us, rd, hp, mp', g1, fun {F c w hq c0} H hh hv hS hrd hK hn hnd => ?_⟩
      simp only [VR] at hv
      obtain ⟨cs', e, hv⟩ := hv
      cases e
      obtain ⟨c1, E, k1, k2, k3, k4, k5, k6, k7⟩ := g2 H hh hv hS hrd hK hn hnd
      exact ⟨c1, E, k1, k2, k3, by simp only [VR]; exact ⟨cs, rfl, k4⟩, k5, k6, k7⟩
    · obtain ⟨mp, us, rd, hp, mp', g1, g2⟩ := h2 []
      refine ⟨mp, us, rd, hp, mp', g1, fun {F c w hq c0} H hh hv hS hrd hK hn hnd => ?_⟩
      simp only [VR] at hv
      obtain ⟨cs', e, hv⟩ := hv
      exact absurd ⟨cs', e⟩ hag
  | .bx n l, v, m, _, K, r, he => by
    unfold Nm.go at he
    split at he
    case h_2 => cases he
    rename_i b off
    split at he
    · rename_i n' hn'
      split at he
      case h_2 => cases he
      rename_i hb
      have := Nat.eq_of_beq_eq_true hb
      subst this
      refine ⟨_, _, he, fun val => GoOk.none (fun c w c0 hS hK hv => ?_)⟩
      simp only [VR] at hv ⊢
      obtain ⟨k1, k2⟩ := hK b n hn'
      exact ⟨k1, by rw [k2]; exact hv.2⟩
    · rename_i hnone
      split at he
      case h_2 => cases he
      rename_i vs hb
      obtain ⟨ws, m', h1, h2⟩ := goL_ok he
      obtain ⟨mp0, us0, rd0, hp0, mp0', g01, g02⟩ := h2 []
      refine ⟨_, _, h1, fun val => ?_⟩
      refine ⟨mp0 ++ [b], us0, rd0, (n, some (.box ws)) :: hp0, mp0' ++ [(b, n)], ⟨?_, ?_, ?_, g01.2.2.2⟩, fun {F c w hq c0} H hh hv hS hrd hK hn hnd => ?_⟩
      · rw [g01.1]; simp
      · rw [g01.2.1]; simp
      · have := g01.2.2.1
        intro d hd
        simp only [List.append_assoc, List.mem_append, List.mem_singleton] at hd
        rcases hd with hd | hd | hd
        · exact this d (List.mem_append_left _ hd)
        · subst hd; exact ⟨_, hb, rfl⟩
        · exact this d (List.mem_append_right _ hd)
      · simp only [VR] at hv
        obtain ⟨hM, g, e1, e2⟩ := hv
        obtain ⟨_, g', cs, e, m1, m2, m3⟩ := H.blk b _ (hh b _ hb)
        obtain ⟨mp, us, rd, hp, mp', g1, g2⟩ := h2 cs.toList
        -- the two tellings are one
        have heq := g01.1.symm.trans g1.1
        simp only [NmS.mk.injEq, List.append_cancel_right_eq] at heq
        obtain ⟨q1, q2, q3, q4⟩ := heq
        subst q1; subst q2; subst q3; subst q4
        have q5 : mp0 = mp := g01.2.1.trans g1.2.1.symm
        subst q5
        have hfr := hn n (by simp)
        have hto0 : c0.To (c0.ext n (.pointer (some ⟨g, 0, none⟩))) w w := .ext hfr (fun _ _ => rfl)
        simp only [List.map_cons, List.nodup_cons] at hnd
        obtain ⟨c1, E, k1, k2, k3, k4, k5, k6, k7⟩ := g2 (c0 := c0.ext n (.pointer (some ⟨g, 0, none⟩))) H hh m3 hS hrd (hK.ext hfr e1.symm) (fun d hd hMd => by
          rcases hMd with hMd | hMd
          · exact hn d (by simp only [List.map_cons]; exact List.mem_cons_of_mem _ hd) hMd
          · exact hnd.1 (hMd ▸ hd)) hnd.2
        have hMn : (c0.ext n (.pointer (some ⟨g, 0, none⟩))).M n := .inr rfl
        have hρn : c1.ρ n = .pointer (some ⟨g, 0, none⟩) := by rw [k1.ρ n hMn, Ctx.ext_at]
        rw [e1] at m1
        simp only [Value.pointer.injEq, Option.some.injEq, Addr.mk.injEq, and_true] at m1
        subst m1
        refine ⟨c1, E ++ [(n, b)], hto0.trans k1, k2, fun d hd => ?_, ?_, k5, fun d x hx => ?_, ?_⟩
        · rcases k3 d hd with h | h
          · exact h.imp id (fun e => by simp [e])
          · exact .inr (by simp only [List.map_cons]; exact List.mem_cons_of_mem _ h)
        · simp only [VR]
          exact ⟨k1.M n hMn, g, hρn, e2⟩
        · rcases List.mem_cons.1 hx with hx | hx
          · cases hx
            refine ⟨_, rfl, rfl, k1.M n hMn, ⟨g, cs, e, hρn, m2, k4⟩, fun g' hg' => ⟨b, by simp, ?_⟩⟩
            rw [hρn] at hg'; rw [e1]; exact hg'
          · obtain ⟨y, y1, y2, y3, y4, y5⟩ := k6 d x hx
            refine ⟨y, y1, y2, y3, y4, fun g' hg' => ?_⟩
            obtain ⟨z, hz, hz2⟩ := y5 g' hg'
            exact ⟨z, List.mem_append_left _ hz, hz2⟩
        · rw [List.map_append, List.append_assoc]
          refine (k7.append_right _).trans ?_
          rw [List.append_assoc]
          exact List.Perm.append_left _ List.perm_append_comm
  | .fn la lk, v, m, _, K, r, he => by
    unfold Nm.go at he
    split at he
    case h_2 => cases he
    rename_i f a k
    obtain ⟨wa, m1, h1, h2⟩ := goL_ok he
    obtain ⟨wk, m2, i1, i2⟩ := goL_ok h1
    refine ⟨_, _, i1, fun val => ?_⟩
    by_cases hf : ∃ (a' k' : Array Value), val = .func (.func f) a' k'
    · obtain ⟨a', k', rfl⟩ := hf
      exact ((h2 a'.toList).comp (i2 k'.toList) (fun c w c1 c2 ht hv => hv.to ht)).imp (fun c w c1 hR => by simp only [VR]; exact ⟨a', k', rfl, hR.1, hR.2⟩) (fun c w hv => by
        simp only [VR] at hv
        obtain ⟨a2, k2, e, v1, v2⟩ := hv
        cases e
        exact ⟨v1, v2⟩)
    · obtain ⟨mp, us, rd, hp, mp', g1, g2⟩ := (h2 []).comp (i2 []) (fun c w c1 c2 ht hv => hv.to ht)
      exact ⟨mp, us, rd, hp, mp', g1, fun {F c w hq c0} H hh hv hS hrd hK hn hnd => by
        simp only [VR] at hv
        obtain ⟨a2, k2, e, _⟩ := hv
        exact absurd ⟨a2, k2, e⟩ hf⟩
  | .fz l, v, m, _, K, r, he => by
    unfold Nm.go at he
    split at he
    · rename_i b off
      split at he
      case h_2 => cases he
      rename_i vs hb
      obtain ⟨ws, m', h1, h2⟩ := goL_ok he
      obtain ⟨mp0, us0, rd0, hp0, mp0', g01, g02⟩ := h2 []
      refine ⟨_, _, h1, fun val => ?_⟩
      refine ⟨mp0, us0, b :: rd0, hp0, mp0', ⟨?_, g01.2.1, g01.2.2.1, ?_⟩, fun {F c w hq c0} H hh hv hS hrd hK hn hnd => ?_⟩
      · rw [g01.1]; simp
      · intro d hd
        rcases List.mem_cons.1 hd with hd | hd
        · subst hd; exact ⟨_, hb, rfl⟩
        · exact g01.2.2.2 d hd
      · simp only [VR] at hv
        obtain ⟨hM, g, e1, e2⟩ := hv
        obtain ⟨_, g', cs, e, m1, m2, m3⟩ := H.blk b _ (hh b _ hb)
        obtain ⟨mp, us, rd, hp, mp', g1, g2⟩ := h2 cs.toList
        have heq := g01.1.symm.trans g1.1
        simp only [NmS.mk.injEq, List.append_cancel_right_eq] at heq
        obtain ⟨q1, q2, q3, q4⟩ := heq
        subst q1; subst q2; subst q3; subst q4
        have q5 : mp0 = mp := g01.2.1.trans g1.2.1.symm
        subst q5
        rw [e1] at m1
        simp only [Value.pointer.injEq, Option.some.injEq, Addr.mk.injEq, and_true] at m1
        subst m1
        obtain ⟨c1, E, k1, k2, k3, k4, k5, k6, k7⟩ := g2 H hh m3 hS (fun d hd => hrd d (List.mem_cons_of_mem _ hd)) hK hn hnd
        refine ⟨c1, E, k1, k2, k3, ?_, k5, k6, k7⟩
        simp only [VR]
        exact ⟨g, cs, e, e2, by rw [k2]; exact hrd b List.mem_cons_self g (by rw [e1]; rfl), m2, k4⟩
    · rename_i vs off
      obtain ⟨ws, m', h1, h2⟩ := goL_ok he
      refine ⟨_, _, h1, fun val => ?_⟩
      by_cases hf : ∃ (w : World) (c : Ctx), VR c w (.cptr vs off) val
      · obtain ⟨mp0, us0, rd0, hp0, mp0', g01, g02⟩ := h2 []
        refine ⟨mp0, us0, rd0, hp0, mp0', g01, fun {F c w hq c0} H hh hv hS hrd hK hn hnd => ?_⟩
        simp only [VR] at hv
        obtain ⟨g, cs, ty, e, hs, hw, hv⟩ := hv
        obtain ⟨mp, us, rd, hp, mp', g1, g2⟩ := h2 cs.toList
        have heq := g01.1.symm.trans g1.1
        simp only [NmS.mk.injEq, List.append_cancel_right_eq] at heq
        obtain ⟨q1, q2, q3, q4⟩ := heq
        subst q1; subst q2; subst q3; subst q4
        have q5 : mp0 = mp := g01.2.1.trans g1.2.1.symm
        subst q5
        obtain ⟨c1, E, k1, k2, k3, k4, k5, k6, k7⟩ := g2 H hh hv hS hrd hK hn hnd
        refine ⟨c1, E, k1, k2, k3, ?_, k5, k6, k7⟩
        simp only [VR]
        exact ⟨g, cs, ty, e, by rw [k2]; exact hS _ hs, hw, k4⟩
      · obtain ⟨mp0, us0, rd0, hp0, mp0', g01, g02⟩ := h2 []
        exact ⟨mp0, us0, rd0, hp0, mp0', g01, fun {F c w hq c0} H hh hv hS hrd hK hn hnd => absurd ⟨w, c, hv⟩ hf⟩
    · cases he
  | .as, v, m, _, K, r, he => by
    unfold Nm.go at he
    split at he
    case h_2 => cases he
    rename_i hi
    exact ⟨_, _, he, fun val => GoOk.none (fun c w c0 hS hK hv => VR.noids hS hi hv)⟩
theorem goL_ok {h : Nat → Option Blk} : ∀ {nms : List Nm} {vs : List V} {m : NmS} {α : Type} {K : List V → NmS → Option α} {r : α}, nmL h nms vs m K = some r →
    ∃ vs' m', K vs' m' = some r ∧ ∀ vals, GoOk h m m' (fun c w c1 => VRs c1 w vs' vals) (fun c w => VRs c w vs vals)
  | [], vs, m, _, K, r, he => by
    unfold nmL at he
    split at he
    case h_2 => cases he
    exact ⟨_, _, he, fun vals => GoOk.none (fun c w c0 hS hK hv => by simp only [VRs] at hv ⊢; exact hv)⟩
  | a :: q, vs, m, _, K, r, he => by
    unfold nmL at he
    split at he
    case h_2 => cases he
    rename_i v vq
    obtain ⟨v', m1, h1, h2⟩ := go_ok he
    obtain ⟨vs', m2, i1, i2⟩ := goL_ok h1
    refine ⟨_, _, i1, fun vals => ?_⟩
    obtain ⟨mp1, us1, rd1, hp1, mp1', g1, _⟩ := h2 (vals.headD undef)
    obtain ⟨mp2, us2, rd2, hp2, mp2', g3, _⟩ := i2 vals.tail
    refine ⟨mp2 ++ mp1, us2 ++ us1, rd2 ++ rd1, hp2 ++ hp1, mp2' ++ mp1', ⟨?_, ?_, ?_, g3.2.2.2.append g1.2.2.2⟩, fun {F c w hq c0} H hh hv hS hrd hK hn hnd => ?_⟩
    · rw [g3.1, g1.1]; simp
    · rw [g3.2.1, g1.2.1]; simp
    · have a1 := g3.2.2.1; have a2 := g1.2.2.1
      intro d hd
      simp only [List.append_assoc, List.mem_append] at hd
      rcases hd with hd | hd | hd | hd
      · exact a1 d (List.mem_append_left _ hd)
      · exact a2 d (List.mem_append_left _ hd)
      · exact a1 d (List.mem_append_right _ hd)
      · exact a2 d (List.mem_append_right _ hd)
    · simp only [VRs] at hv
      obtain ⟨x, xs, rfl, hx, hxs⟩ := hv
      obtain ⟨mp, us, rd, hp, mp', g1', g2'⟩ := h2 x
      have heq := g1.1.symm.trans g1'.1
      simp only [NmS.mk.injEq, List.append_cancel_right_eq] at heq
      obtain ⟨q1, q2, q3, q4⟩ := heq
      subst q1; subst q2; subst q3; subst q4
      have q5 : mp1 = mp := g1.2.1.trans g1'.2.1.symm
      subst q5
      obtain ⟨mp, us, rd, hp, mp', g3', g4'⟩ := i2 xs
      have heq := g3.1.symm.trans g3'.1
      simp only [NmS.mk.injEq, List.append_cancel_right_eq] at heq
      obtain ⟨q1, q2, q3, q4⟩ := heq
      subst q1; subst q2; subst q3; subst q4
      have q5 : mp2 = mp := g3.2.1.trans g3'.2.1.symm
      subst q5
      rw [List.map_append] at hn hnd
      obtain ⟨n1, n2, n3⟩ := List.nodup_append.1 hnd
      obtain ⟨c1, E, k1, k2, k3, k4, k5, k6, k7⟩ := g2' H hh hx hS (fun b hb => hrd b (List.mem_append_right _ hb)) hK (fun d hd => hn d (List.mem_append_right _ hd)) n2
      obtain ⟨c2, E2, l1, l2, l3, l4, l5, l6, l7⟩ := g4' (c0 := c1) H hh hxs (fun k hk => by rw [k2]; exact hS k hk) (fun b hb g hg => by rw [k2]; exact hrd b (List.mem_append_left _ hb) g hg) k5 (fun d hd hM => by
        rcases k3 d hM with h | h
        · exact hn d (List.mem_append_left _ hd) h
        · exact n3 d hd d h rfl) n1
      refine ⟨c2, E2 ++ E, k1.trans l1, l2.trans k2, fun b hb => ?_, ?_, l5, fun d y hy => ?_, ?_⟩
      · rw [List.map_append]
        rcases l3 b hb with h | h
        · exact (k3 b h).imp id (fun h => List.mem_append_right _ h)
        · exact .inr (List.mem_append_left _ h)
      · simp only [VRs]; exact ⟨x, xs, rfl, k4.to l1, l4⟩
      · rcases List.mem_append.1 hy with hy | hy
        · obtain ⟨z, z1, z2, z3, z4, z5⟩ := l6 d y hy
          refine ⟨z, z1, z2, z3, z4, fun g hg => ?_⟩
          obtain ⟨u, u1, u2⟩ := z5 g hg
          exact ⟨u, List.mem_append_left _ u1, u2⟩
        · exact (k6.to l1 (fun x hx => List.mem_append_right _ hx)) d y hy
      · rw [List.map_append]
        exact (l7.append k7).trans pk_perm
end
theorem ann_ok {h : Nat → Option Blk} {e : List (Nat × V)} : ∀ {an : Ann} {m : NmS} {α : Type} {K : List (Nat × V) → NmS → Option α} {r : α}, annK h e an m K = some r →
    ∃ l m', K l m' = some r ∧ ∀ tv : Nat → Value, GoOk h m m' (fun c w c1 => ∀ t v, (t, v) ∈ l → VR c1 w v (tv t)) (fun c w => ∀ t, VR c w (egetd e t) (tv t))
  | [], m, _, K, r, he => ⟨[], m, he, fun tv => GoOk.none (fun c w c0 hS hK hv t v h => by cases h)⟩
  | (t, a) :: q, m, _, K, r, he => by
    unfold annK at he
    obtain ⟨v', m1, h1, h2⟩ := go_ok he
    obtain ⟨l, m2, i1, i2⟩ := ann_ok h1
    refine ⟨_, _, i1, fun tv => ((h2 (tv t)).comp (i2 tv) (fun c w c1 c2 ht hv => hv.to ht)).imp (fun c w c1 hR d v hd => ?_) (fun c w hv => ⟨hv t, hv⟩)⟩
    rcases List.mem_cons.1 hd with e | hd
    · cases e; exact hR.1
    · exact hR.2 d v hd
theorem ltAll_ok {n : Nat} : ∀ {hp : Hp}, ltAll n hp = true → ∀ b ∈ hp.map (·.1), b < n
  | [], _, b, hb => by cases hb
  | (d, x) :: r, h, b, hb => by
    unfold ltAll at h
    split at h
    · rename_i hd
      rcases List.mem_cons.1 hb with e | hb
      · subst e; simpa [Nat.blt_eq] using hd
      · exact ltAll_ok h b hb
    · cases h
theorem distinct_ok : ∀ {hp : Hp}, distinct hp = true → (hp.map (·.1)).Nodup
  | [], _ => List.nodup_nil
  | (d, x) :: r, h => by
    unfold distinct at h
    split at h
    · cases h
    · rename_i hd
      refine List.nodup_cons.2 ⟨fun hm => ?_, distinct_ok h⟩
      obtain ⟨p, hp, e⟩ := List.mem_map.1 hm
      have : r.any (fun p => Nat.beq d p.1) = true := List.any_eq_true.2 ⟨p, hp, by rw [e]; simp⟩
      rw [hd] at this; cases this
theorem get_mem2 {β : Type} : ∀ {l : List (Nat × β)} {b : Nat} {x : β}, get l b = some x → (b, x) ∈ l
  | [], b, x, h => by cases h
  | (d, v) :: r, b, x, h => by
    rw [get_cons] at h
    split at h
    · rename_i e; subst e; cases h; exact List.mem_cons_self
    · exact List.mem_cons_of_mem _ (get_mem2 h)
theorem norm_ok {anns : List (Nat × Ann)} {bx : List Nat} {n : Nat} {s : St} {K : St → Option α} {r : α} {F : Fr} {c : Ctx} {nt : Nat} {N : Nat → Prop} {a : Act} {w : World} (he : norm anns bx n s K = some r) (hbx : F.bx = bx) (H : SR F c nt N s.env s.heap a w) :
    ∃ s', K s' = some r ∧ s'.next = 1000 ∧ ∃ c', SR F c' nt (fun b => b < 1000) s'.env s'.heap a w := by
  unfold norm at he
  split at he
  · cases he
  rename_i an _
  obtain ⟨l, m', h1, h2⟩ := ann_ok he
  dsimp only at h1
  split at h1
  case h_2 => cases h1
  rename_i q1 q2 q3 q4
  refine ⟨_, h1, rfl, ?_⟩
  obtain ⟨mp, us, rd, hp, mp', ⟨g1, g2, g3, g4⟩, g5⟩ := h2 (fun t => a.tmps.getD t undef)
  simp only [List.append_nil] at g1
  subst g1
  dsimp only at q1 q2 q3 q4 ⊢
  rw [← g2] at q3 q4
  simp only [Bool.and_eq_true] at q3
  obtain ⟨q3, q5⟩ := q3
  have hnd := nodup_ok q3
  have hdis := any_not q4
  have hown : ∀ b, b ∈ mp ++ us ∨ b ∈ rd → ∃ x, hget s.heap b = some x ∧ x.own = true := fun b hb => hb.elim (g3 b) (g4 b)
  obtain ⟨S', hS'⟩ : ∃ S' : Nat → Prop, S' = fun k => c.S k ∨ ∃ b ∈ rd, vblk (c.ρ b) = some k := ⟨_, rfl⟩
  have hc0 : HR F ⟨S', fun _ => .slice none 0 0, fun _ => False⟩ w [] := by
    refine ⟨(by intro b x hb; cases hb), (by intro b x g hb; cases hb), (by intro b d x y g _ hb; cases hb), H.hr.keeps, fun k hk => ?_, fun k hk => ?_⟩
    · dsimp only at hk
      rw [hS'] at hk
      rcases hk with hk | ⟨b, hb, e⟩
      · exact H.hr.stays k hk
      · obtain ⟨y, y1, y2⟩ := hown b (.inr hb)
        exact (H.hr.own b y k y1 y2 e).2.2
    · dsimp only at hk
      rw [hS'] at hk
      rcases hk with hk | ⟨b, hb, e⟩
      · exact H.hr.grew k hk
      · obtain ⟨y, y1, y2⟩ := hown b (.inr hb)
        exact .inr (H.hr.own b y k y1 y2 e).2.1
  obtain ⟨c1, E, k1, k2, k3, k4, k5, k6, k7⟩ := g5 (c0 := ⟨S', fun _ => .slice none 0 0, fun _ => False⟩) H.hr (fun _ _ h => h) H.env (fun k hk => by dsimp only; rw [hS']; exact .inl hk) (fun b hb g hg => by dsimp only; rw [hS']; exact .inr ⟨b, hb, hg⟩) (by intro b n hb; cases hb) (fun n _ h => h) (distinct_ok q2)
  have hEk : ∀ b d, (b, d) ∈ E → d ∈ mp ++ us := fun b d hd => k7.mem_iff.1 (List.mem_map.2 ⟨_, hd, rfl⟩)
  have hC : Came c c1 w 0 1000 hp E := by
    refine ⟨by omega, fun b x hx => ?_, fun b x hx => ?_⟩
    · obtain ⟨y, y1, y2, _⟩ := k6 b x hx
      exact ⟨Nat.zero_le _, ltAll_ok q1 b (List.mem_map.2 ⟨_, hx, rfl⟩), y, y1, y2⟩
    · have hm : (b, some x) ∈ hp := by
        unfold hget at hx
        split at hx
        · rename_i z hz
          subst hx
          exact get_mem2 hz
        · cases hx
      obtain ⟨y, y1, y2, y3, y4, y5⟩ := k6 b _ hm
      cases y1
      exact ⟨y3, y4, y5⟩
  have hin := hc0.came k1 k2 hC (k7.nodup_iff.2 hnd) (fun b d hd g hg => by
    obtain ⟨z, z1, z2⟩ := hown d (.inl (hEk b d hd))
    obtain ⟨o1, o2, o3⟩ := H.hr.own d z g z1 z2 hg
    refine ⟨fun hs => ?_, o2, o3, (by intro k y hk; cases hk)⟩
    dsimp only at hs
    rw [hS'] at hs
    rcases hs with hs | ⟨d', hd', e⟩
    · exact o1 hs
    · obtain ⟨u, u1, u2⟩ := hown d' (.inr hd')
      exact H.hr.apart d d' z u g (fun e => hdis d' hd' (e ▸ hEk b d hd)) z1 u1 z2 u2 hg e) (fun b d b' d' g hd hd' hg hg' => by
    obtain ⟨z, z1, z2⟩ := hown d (.inl (hEk b d hd))
    obtain ⟨u, u1, u2⟩ := hown d' (.inl (hEk b' d' hd'))
    rcases Nat.decEq d d' with hne | heq
    · exact absurd hg' (fun hg' => H.hr.apart d d' z u g hne z1 u1 z2 u2 hg hg')
    · exact heq)
  rw [List.append_nil] at hin
  refine ⟨c1, hin, fun b hb => ?_, H.size, fun t => ?_, H.defers, ⟨fun k hk => ?_, H.base.heap, fun d hd => ?_⟩⟩
  · rcases k3 b hb with h | h
    · exact absurd h id
    · exact ltAll_ok q1 b h
  · unfold egetd
    split
    · rename_i v hv; exact k4 t v (get_mem2 hv)
    · simp only [VR]
  · rw [k2]; dsimp only; rw [hS']; exact .inl (H.base.S k hk)
  · rw [hbx] at hd
    have := List.all_eq_true.1 q5 d hd
    split at this
    · rename_i n' hn'
      have := Nat.eq_of_beq_eq_true this
      subst this
      obtain ⟨z1, z2⟩ := k5 _ _ (by simpa using hn')
      exact ⟨z1, z2.trans (H.base.bx _ (by rw [hbx]; exact hd)).2⟩
    · cases this
end
end Go.Proofs.YtiacidpjplmgaaaDoorD
