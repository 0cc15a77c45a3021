/- Words of this session's own: a function of plain values, by a contract off the shelf. -/
import Derived.Test.YtiacidpjplmgaaaDoorDn26
set_option linter.unusedVariables false
set_option linter.unusedSimpArgs false
namespace Go.Proofs.YtiacidpjplmgaaaDoorD
open Go.RowKit
section
variable {P : Program}
def sca : Ty → Bool
  | .int _ => true
  | .bool => true
  | .str => true
  | _ => false
def valOf : (t : Ty) → t.D → Value
  | .int k, n => .int k n
  | .bool, b => .bool b
  | .str, s => .string s
  | _, _ => undef
theorem Rd.sca {S : Nat → Prop} {w : World} : ∀ {t : Ty} {x : t.D} {cs : List Value}, Go.Proofs.YtiacidpjplmgaaaDoorD.sca t = true → (Rd S w t x cs ↔ cs = [valOf t x])
  | .int k, x, cs, _ => by simp [Rd, valOf]
  | .bool, x, cs, _ => by simp [Rd, valOf]
  | .str, x, cs, _ => by simp [Rd, valOf]
  | .sl _, _, _, h | .pair _ _, _, _, h | .fn, _, _, h => by cases h
def dn (us : List Leaf) : List Sh := us.map fun l => .d l.t none
theorem leafAs_val {α : Type} {h : Nat → Option Blk} {u : Ty} {r : u.D} (K : u.D → List Nat → Option α) : leafAs h u (.val u r) K = K r [] := by
  unfold leafAs
  dsimp only
  rw [castK_self]
theorem passL_sca {h : Nat → Option Blk} : ∀ {α : Type} (us : List Leaf) (K : Pk → Option α), passL h (dn us) (us.map fun l => .val l.t l.x) K = K ⟨us, [], [], [], []⟩
  | _, [], K => rfl
  | _, u :: us, K => by
    show passL h (.d u.t none :: dn us) (.val u.t u.x :: us.map fun l => .val l.t l.x) K = _
    unfold passL Sh.pass
    dsimp only
    rw [leafAs_val, passL_sca us]
    rfl
theorem VRs.sca {c : Ctx} {w : World} : ∀ {us : List Leaf}, us.all (fun l => Go.Proofs.YtiacidpjplmgaaaDoorD.sca l.t) = true → VRs c w (us.map fun l => .val l.t l.x) (us.map fun l => valOf l.t l.x)
  | [], _ => VRs.nil'
  | u :: us, h => by
    rw [List.all_cons, Bool.and_eq_true] at h
    exact VRs.cons' (VR.val' ((Rd.sca h.1).2 rfl)) (VRs.sca h.2)
theorem post_sca {F : Fr} {c : Ctx} {w w' : World} {us : List Leaf} (hu : us.all (fun l => sca l.t) = true) (hw0 : F.w0 = w) (H : HR F c w []) (hB : Below w.heap.size w w') :
    Post F c w (dn us) [] [] us (retVal (us.map fun l => valOf l.t l.x)) w' := by
  subst hw0
  obtain ⟨b1, b2, b3, b4, b5⟩ := hB
  refine ⟨c, [], us.map fun l => .val l.t l.x, us.map fun l => valOf l.t l.x, ⟨us, [], [], [], []⟩, ⟨fun k hk => ⟨hk, b5 k (H.stays k hk)⟩, by intro d hd; cases hd⟩, ?_, VRs.sca hu, ?_, rfl, List.nodup_nil, rfl, rfl, (by intro b hb; cases hb), ?_, ?_⟩
  · exact ⟨(by intro b x hb; cases hb), (by intro b x g hb; cases hb), (by intro b d x y g _ hb; cases hb), ⟨b1, b2, b3, b4, fun k hk _ => b5 k hk⟩, fun k hk => Nat.lt_of_lt_of_le (H.stays k hk) b4, H.grew⟩
  · unfold flatL
    rw [List.append_nil]
    exact passL_sca us some
  · have : (dn us).length = (us.map fun l => valOf l.t l.x).length := by unfold dn; rw [List.length_map, List.length_map]
    rw [this, List.take_length]
  · have : (dn us).length = (us.map fun l => valOf l.t l.x).length := by unfold dn; rw [List.length_map, List.length_map]
    rw [this, List.drop_length]
    simp [BoxAt]
theorem sound1 {f : FuncId} {fn : Func} (hf : P.funcs[f]? = some fn) (hname : (fn.name == "runtime.NumGoroutine") = false) (hb : fn.body.isSome = true) {t1 u : Ty} (h1 : sca t1 = true) (hu : sca u = true) (g : t1.D → Option u.D)
    (hC : ∀ x r, g x = some r → ∀ W : World, GN ≤ W.heap.size → GP W.heap → Calls P f #[valOf t1 x] W fun e w' => e = .returned (valOf u r) ∧ Below W.heap.size W w') : Sound P f ⟨[.d t1 none], [.d u none], g⟩ := by
  refine ⟨fun args w => enters_fn hf hname hb args w, fun (x : t1.D) (r : u.D) hx F c w vals hw0 hS hM H hv => ?_⟩
  have hv0 : VRs c w [.val t1 x] vals := hv
  simp only [VRs] at hv0
  obtain ⟨v1, q, rfl, e1, rfl⟩ := hv0
  simp only [VR] at e1
  have e1 := (Rd.sca h1).1 e1
  simp only [List.cons.injEq, and_true] at e1
  subst e1
  have hg : GN ≤ w.heap.size ∧ GP w.heap := by rw [← hw0]; exact ⟨F.gle, F.gok⟩
  exact (hC x r hx w hg.1 hg.2).mono fun e w' ⟨he, hB⟩ => ⟨_, he, post_sca (us := [⟨u, r⟩]) (by simpa using hu) hw0 H hB⟩
theorem sound2 {f : FuncId} {fn : Func} (hf : P.funcs[f]? = some fn) (hname : (fn.name == "runtime.NumGoroutine") = false) (hb : fn.body.isSome = true) {t1 t2 u : Ty} (h1 : sca t1 = true) (h2 : sca t2 = true) (hu : sca u = true) (g : t1.D × t2.D → Option u.D)
    (hC : ∀ x r, g x = some r → ∀ W : World, GN ≤ W.heap.size → GP W.heap → Calls P f #[valOf t1 x.1, valOf t2 x.2] W fun e w' => e = .returned (valOf u r) ∧ Below W.heap.size W w') : Sound P f ⟨[.d t1 none, .d t2 none], [.d u none], g⟩ := by
  refine ⟨fun args w => enters_fn hf hname hb args w, fun (x : t1.D × t2.D) (r : u.D) hx F c w vals hw0 hS hM H hv => ?_⟩
  have hv0 : VRs c w [.val t1 x.1, .val t2 x.2] vals := hv
  simp only [VRs] at hv0
  obtain ⟨v1, q, rfl, e1, v2, q2, rfl, e2, rfl⟩ := hv0
  simp only [VR] at e1 e2
  have e1 := (Rd.sca h1).1 e1
  have e2 := (Rd.sca h2).1 e2
  simp only [List.cons.injEq, and_true] at e1 e2
  subst e1; subst e2
  have hg : GN ≤ w.heap.size ∧ GP w.heap := by rw [← hw0]; exact ⟨F.gle, F.gok⟩
  exact (hC x r hx w hg.1 hg.2).mono fun e w' ⟨he, hB⟩ => ⟨_, he, post_sca (us := [⟨u, r⟩]) (by simpa using hu) hw0 H hB⟩
theorem sound2x3 {f : FuncId} {fn : Func} (hf : P.funcs[f]? = some fn) (hname : (fn.name == "runtime.NumGoroutine") = false) (hb : fn.body.isSome = true) {t1 t2 u1 u2 u3 : Ty} (h1 : sca t1 = true) (h2 : sca t2 = true) (hu1 : sca u1 = true) (hu2 : sca u2 = true) (hu3 : sca u3 = true) (g : t1.D × t2.D → Option (u1.D × u2.D × u3.D))
    (hC : ∀ x r, g x = some r → ∀ W : World, GN ≤ W.heap.size → GP W.heap → Calls P f #[valOf t1 x.1, valOf t2 x.2] W fun e w' => e = .returned (.tuple #[valOf u1 r.1, valOf u2 r.2.1, valOf u3 r.2.2]) ∧ Below W.heap.size W w') : Sound P f ⟨[.d t1 none, .d t2 none], [.d u1 none, .d u2 none, .d u3 none], g⟩ := by
  refine ⟨fun args w => enters_fn hf hname hb args w, fun (x : t1.D × t2.D) (r : u1.D × u2.D × u3.D) hx F c w vals hw0 hS hM H hv => ?_⟩
  have hv0 : VRs c w [.val t1 x.1, .val t2 x.2] vals := hv
  simp only [VRs] at hv0
  obtain ⟨v1, q, rfl, e1, v2, q2, rfl, e2, rfl⟩ := hv0
  simp only [VR] at e1 e2
  have e1 := (Rd.sca h1).1 e1
  have e2 := (Rd.sca h2).1 e2
  simp only [List.cons.injEq, and_true] at e1 e2
  subst e1; subst e2
  have hg : GN ≤ w.heap.size ∧ GP w.heap := by rw [← hw0]; exact ⟨F.gle, F.gok⟩
  exact (hC x r hx w hg.1 hg.2).mono fun e w' ⟨he, hB⟩ => ⟨_, he, post_sca (us := [⟨u1, r.1⟩, ⟨u2, r.2.1⟩, ⟨u3, r.2.2⟩]) (by simp [hu1, hu2, hu3]) hw0 H hB⟩
end
end Go.Proofs.YtiacidpjplmgaaaDoorD
