/- Words of this session's own: strings.Join and strings.Split by their contracts. -/
import Derived.Test.YtiacidpjplmgaaaDoorDn27
import Derived.Lib.Join
import Derived.Lib.SplitLaws
set_option linter.unusedVariables false
set_option linter.unusedSimpArgs false
namespace Go.Proofs.YtiacidpjplmgaaaDoorD
open Go.RowKit
section
variable {P : Program}
theorem flat_str {S : Nat → Prop} {w : World} : ∀ {xs : List ByteArray} {inner : List Value}, Flat (Rd S w .str) xs inner → inner = xs.map Value.string
  | [], _, h => h
  | x :: xs, _, ⟨c, r, e, hp, hr⟩ => by
    have h1 : c = [Value.string x] := hp
    rw [e, h1, flat_str hr]; rfl
theorem flat_str' {S : Nat → Prop} {w : World} : ∀ xs : List ByteArray, Flat (Rd S w .str) xs (xs.map Value.string)
  | [] => rfl
  | x :: xs => ⟨[.string x], xs.map Value.string, rfl, rfl, flat_str' xs⟩
def joinF (xs : List ByteArray) (sep : ByteArray) : Option ByteArray := if xs.length ≤ 140737488355328 ∧ (Go.Lib.join (xs.map (·.data.toList)) sep.data.toList).length ≤ 140737488355328 then some ⟨(Go.Lib.join (xs.map (·.data.toList)) sep.data.toList).toArray⟩ else none
theorem soundJoin {f : FuncId} {fn : Func} (hf : P.funcs[f]? = some fn) (hname : (fn.name == "runtime.NumGoroutine") = false) (hb : fn.body.isSome = true)
    (h0 : ∀ (a : Option Addr) (c : Nat) (sep : ByteArray) (w : World), Calls P f #[.slice a 0 c, .string sep] w fun e w' => e = .returned (.string ⟨#[]⟩) ∧ w' = w)
    (h1 : ∀ (bk o c : Nat) (xs : List ByteArray) (sep : ByteArray) (w : World), (∀ (j : Nat) x, xs[j]? = some x → w.cell? ⟨bk, o + j, none⟩ = some (.string x)) → bk < w.heap.size → xs.length ≤ 140737488355328 → xs.length ≤ c → (Go.Lib.join (xs.map (·.data.toList)) sep.data.toList).length ≤ 140737488355328 →
      Calls P f #[.slice (some ⟨bk, o, none⟩) xs.length c, .string sep] w fun e w' => e = .returned (.string ⟨(Go.Lib.join (xs.map (·.data.toList)) sep.data.toList).toArray⟩) ∧ Below w.heap.size w w') :
    Sound P f ⟨[.d (.sl .str) none, .d .str none], [.d .str none], fun x => joinF x.1 x.2⟩ := by
  refine ⟨fun args w => enters_fn hf hname hb args w, fun (x : List ByteArray × ByteArray) (r : ByteArray) hx F c w vals hw0 hS hM H hv => ?_⟩
  have hv0 : VRs c w [.val (.sl .str) x.1, .val .str x.2] vals := hv
  simp only [VRs] at hv0
  obtain ⟨v1, q, rfl, e1, v2, q2, rfl, e2, rfl⟩ := hv0
  simp only [VR] at e1 e2
  have e2 := (Rd.sca rfl).1 e2
  simp only [List.cons.injEq, and_true] at e2
  subst e2
  obtain ⟨A, cap, inner, hsl, ⟨hcap, hA⟩, hfl, hin⟩ := e1
  simp only [List.cons.injEq, and_true] at hsl
  subst hsl
  have hin0 := flat_str hfl
  subst hin0
  have hx0 : joinF x.1 x.2 = some r := hx
  unfold joinF at hx0
  split at hx0
  · rename_i hl
    cases hx0
    obtain ⟨xs, sep⟩ := x
    dsimp only at *
    rcases xs with _ | ⟨y, ys⟩
    · refine (h0 A cap sep w).mono fun e w' ⟨he, hw⟩ => ⟨_, he, post_sca (us := [⟨.str, (⟨#[]⟩ : ByteArray)⟩]) rfl hw0 H (by rw [hw]; exact Below.refl _ _)⟩
    · obtain ⟨ad, ha, hs, hcell⟩ := hin (by simp)
      subst ha
      have h00 := hcell 0 (.string y) rfl
      have hsp : ad.spot = none := by
        unfold Addr.add at h00
        rw [if_pos rfl] at h00
        unfold World.cell? at h00
        split at h00
        · split at h00
          · cases h00
          · rename_i hz; cases hq : ad.spot with
            | none => rfl
            | some _ => rw [hq] at hz; simp at hz
        · cases h00
      obtain ⟨bk, o, sp⟩ := ad
      have hsp : sp = none := hsp
      subst hsp
      have hadd : ∀ j, (⟨bk, o, none⟩ : Addr).add j = ⟨bk, o + j, none⟩ := fun j => by
        unfold Addr.add
        by_cases hj : j = 0
        · subst hj; rfl
        · rw [if_neg hj]
      exact (h1 bk o cap (y :: ys) sep w (fun j z hz => by
        rw [← hadd]
        exact hcell j _ (by rw [List.getElem?_map, hz]; rfl)) (H.stays _ hs) hl.1 hcap hl.2).mono fun e w' ⟨he, hB⟩ => ⟨_, he, post_sca (us := [⟨.str, (⟨(Go.Lib.join ((y :: ys).map fun (b : ByteArray) => b.data.toList) sep.data.toList).toArray⟩ : ByteArray)⟩]) rfl hw0 H hB⟩
  · cases hx0
def splitF (s sep : ByteArray) : Option (List ByteArray) := if s.size < 4294967281 ∧ 1 ≤ sep.size then some (Go.Lib.splitB sep 0 (Go.Lib.countB s sep) s) else none
theorem soundSplit {f : FuncId} {fn : Func} (hf : P.funcs[f]? = some fn) (hname : (fn.name == "runtime.NumGoroutine") = false) (hb : fn.body.isSome = true)
    (h1 : ∀ (s sep : ByteArray) (w : World), s.size < 4294967281 → 1 ≤ sep.size → GP w.heap → Calls P f #[.string s, .string sep] w fun e w' => e = .returned (.slice (some ⟨w.heap.size, 0, none⟩) (Go.Lib.countB s sep + 1) (Go.Lib.countB s sep + 1)) ∧ w' = w.alloc (.cells ((Go.Lib.splitB sep 0 (Go.Lib.countB s sep) s).map Value.string).toArray 9)) :
    Sound P f ⟨[.d .str none, .d .str none], [.d (.sl .str) none], fun x => splitF x.1 x.2⟩ := by
  refine ⟨fun args w => enters_fn hf hname hb args w, fun (x : ByteArray × ByteArray) (r : List ByteArray) hx F c w vals hw0 hS hM H hv => ?_⟩
  have hv0 : VRs c w [.val .str x.1, .val .str x.2] vals := hv
  simp only [VRs] at hv0
  obtain ⟨v1, q, rfl, e1, v2, q2, rfl, e2, rfl⟩ := hv0
  simp only [VR] at e1 e2
  have e1 := (Rd.sca rfl).1 e1
  have e2 := (Rd.sca rfl).1 e2
  simp only [List.cons.injEq, and_true] at e1 e2
  subst e1; subst e2
  have hg : GP w.heap := by rw [← hw0]; exact F.gok
  have hx0 : splitF x.1 x.2 = some r := hx
  unfold splitF at hx0
  split at hx0
  · rename_i hl
    have hr := Option.some.inj hx0
    refine (h1 x.1 x.2 w hl.1 hl.2 hg).mono fun e w' ⟨he, hw⟩ => ⟨_, he, ?_⟩
    rw [hr] at hw
    have hlen : r.length = Go.Lib.countB x.1 x.2 + 1 := by rw [← hr]; exact Go.Lib.splitB_all x.2 hl.2 0 _ _ rfl
    rw [← hlen]
    subst hw0
    have hold : ∀ k, k < F.w0.heap.size → w'.heap[k]? = F.w0.heap[k]? := fun k hk => by
      rw [hw]; show (F.w0.heap.push _)[k]? = _
      rw [Array.getElem?_push, if_neg (by omega)]
    have hsz : w'.heap.size = F.w0.heap.size + 1 := by rw [hw]; show (F.w0.heap.push _).size = _; rw [Array.size_push]
    refine ⟨⟨fun k => c.S k ∨ k = F.w0.heap.size, c.ρ, c.M⟩, [], [.val (.sl .str) r], [.slice (some ⟨F.w0.heap.size, 0, none⟩) r.length r.length], ⟨[⟨.sl .str, r⟩], [], [], [], []⟩, ⟨fun k hk => ⟨.inl hk, hold k (H.stays k hk)⟩, by intro d hd; rfl⟩, ?_, ?_, ?_, rfl, List.nodup_nil, rfl, rfl, (by intro b hb; cases hb), ?_, ?_⟩
    · exact ⟨(by intro b x hb; cases hb), (by intro b x g hb; cases hb), (by intro b d x y g _ hb; cases hb), ⟨by rw [hw]; rfl, by rw [hw]; rfl, by rw [hw]; rfl, by omega, fun k hk _ => hold k hk⟩, fun k hk => by
        rcases hk with hk | hk
        · have := H.stays k hk; omega
        · omega, fun k hk => by
        rcases hk with hk | hk
        · exact H.grew k hk
        · right; left; omega⟩
    · refine VRs.one ?_
      simp only [VR]
      refine ⟨some ⟨F.w0.heap.size, 0, none⟩, r.length, r.map Value.string, rfl, ⟨Nat.le_refl _, by intro h; cases h⟩, flat_str' r, fun _ => ⟨_, rfl, .inr rfl, fun j u hu => ?_⟩⟩
      rw [hw]
      have : (⟨F.w0.heap.size, 0, none⟩ : Addr).add j = ⟨F.w0.heap.size, j, none⟩ := by
        unfold Addr.add
        by_cases hj : j = 0
        · subst hj; rfl
        · rw [if_neg hj, Nat.zero_add]
      rw [this, World.cell?_alloc_new]
      simpa using hu
    · exact passL_sca [⟨.sl .str, r⟩] some
    · rfl
    · simp [BoxAt, bxsL, Sh.bxs, inVL, bxIds, bxId]
  · cases hx0
end
end Go.Proofs.YtiacidpjplmgaaaDoorD
