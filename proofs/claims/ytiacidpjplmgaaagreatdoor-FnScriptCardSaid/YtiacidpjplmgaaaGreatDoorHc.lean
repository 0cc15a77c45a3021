/- Words of this session's own: ParseInt and stepOf in plain words. -/
import Derived.Test.YtiacidpjplmgaaaGreatDoorHb
set_option linter.unusedVariables false
set_option linter.unusedSimpArgs false
namespace Go.Proofs.YtiacidpjplmgaaaGreatDoorD
open Go.RowKit Go.Lib
def kindOf (s : ByteArray) : Option (Int × Int × Int) := if s = ⟨#[119, 97, 105, 116]⟩ then some (1, 0, 1) else if s = ⟨#[111, 114, 100, 101, 114]⟩ then some (2, 0, 1) else if s = ⟨#[119, 97, 114, 112]⟩ then some (3, 1, 1) else if s = ⟨#[119, 101, 97, 118, 101]⟩ then some (4, 1, 1) else if s = ⟨#[116, 97, 107, 101]⟩ then some (5, 1, 0) else if s = ⟨#[119, 97, 115, 104]⟩ then some (6, 1, 0) else if s = ⟨#[115, 101, 108, 108]⟩ then some (7, 1, 1) else none
theorem kindOf_cv {s : ByteArray} {k c v : Int} (h : kindOf s = some (k, c, v)) : (∃ i, Instr.findNow .string (.string s) es7.toList 0 = some (some (i, .agg #[.int .i64 k, .int .i64 c, .int .i64 v]))) ∧ (c = 0 ∧ v = 1 ∨ c = 1 ∧ v = 1 ∨ c = 1 ∧ v = 0) := by
  unfold kindOf at h
  by_cases h0 : s = ⟨#[119, 97, 105, 116]⟩
  · subst h0
    cases h
    exact ⟨⟨0, rfl⟩, by omega⟩
  by_cases h1 : s = ⟨#[111, 114, 100, 101, 114]⟩
  · subst h1
    cases h
    exact ⟨⟨1, rfl⟩, by omega⟩
  by_cases h2 : s = ⟨#[119, 97, 114, 112]⟩
  · subst h2
    cases h
    exact ⟨⟨2, rfl⟩, by omega⟩
  by_cases h3 : s = ⟨#[119, 101, 97, 118, 101]⟩
  · subst h3
    cases h
    exact ⟨⟨3, rfl⟩, by omega⟩
  by_cases h4 : s = ⟨#[116, 97, 107, 101]⟩
  · subst h4
    cases h
    exact ⟨⟨4, rfl⟩, by omega⟩
  by_cases h5 : s = ⟨#[119, 97, 115, 104]⟩
  · subst h5
    cases h
    exact ⟨⟨5, rfl⟩, by omega⟩
  by_cases h6 : s = ⟨#[115, 101, 108, 108]⟩
  · subst h6
    cases h
    exact ⟨⟨6, rfl⟩, by omega⟩
  rw [if_neg h0, if_neg h1, if_neg h2, if_neg h3, if_neg h4, if_neg h5, if_neg h6] at h
  cases h
theorem kindOf_none {s : ByteArray} (h : kindOf s = none) : Instr.findNow .string (.string s) es7.toList 0 = some none := by
  unfold kindOf at h
  have h0 : ¬ s = ⟨#[119, 97, 105, 116]⟩ := fun e => by subst e; cases h
  have h1 : ¬ s = ⟨#[111, 114, 100, 101, 114]⟩ := fun e => by subst e; cases h
  have h2 : ¬ s = ⟨#[119, 97, 114, 112]⟩ := fun e => by subst e; cases h
  have h3 : ¬ s = ⟨#[119, 101, 97, 118, 101]⟩ := fun e => by subst e; cases h
  have h4 : ¬ s = ⟨#[116, 97, 107, 101]⟩ := fun e => by subst e; cases h
  have h5 : ¬ s = ⟨#[119, 97, 115, 104]⟩ := fun e => by subst e; cases h
  have h6 : ¬ s = ⟨#[115, 101, 108, 108]⟩ := fun e => by subst e; cases h
  have hb : ∀ {a b : ByteArray}, ¬ a = b → (a == b) = false := fun {a b} h => by
    cases hq : (a == b) with
    | false => rfl
    | true =>
      rw [beq_toListBytes, beq_iff_eq, Lib.toList_data, Lib.toList_data] at hq
      exact absurd (by
        cases a
        cases b
        simp only [ByteArray.mk.injEq]
        exact Array.toList_inj.1 hq) h
  have step : ∀ (b : ByteArray) (k c v : Int) (j : Nat) (r : List MapEntry) (n : Nat), ¬ s = b → Instr.findNow .string (.string s) (ent b k c v j :: r) n = Instr.findNow .string (.string s) r (n + 1) := fun b k c v j r n h => by
    unfold Instr.findNow
    rw [show Instr.sameNow .string (.string s) (ent b k c v j).key = some (s == b) from rfl, hb h]
    cases r <;> rfl
  unfold es7
  rw [step _ _ _ _ _ _ _ h0, step _ _ _ _ _ _ _ h1, step _ _ _ _ _ _ _ h2, step _ _ _ _ _ _ _ h3, step _ _ _ _ _ _ _ h4, step _ _ _ _ _ _ _ h5, step _ _ _ _ _ _ _ h6]
  rfl
def stepOfF (s : ByteArray) (xs : List Int) : Option (Int × Int × Int × Bool) :=
  if xs.length ≤ 1000000 then
    match kindOf s with
    | none => some (0, 0, 0, false)
    | some (k, c, v) => if (xs.length : Int) = c + v then some (k, if c = 1 then xs.getD 0 0 else 0, if v = 1 then xs.getD (xs.length - 1) 0 else 0, true) else some (0, 0, 0, false)
  else none
def parseIntF (s : ByteArray) : Option (Int × Bool) := if s.size ≤ 1000000 then some (parseIntR s) else none
theorem flat_int {S : Nat → Prop} {w : World} : ∀ {xs : List Int} {inner : List Value}, Flat (Rd S w (.int .i64)) xs inner → inner = xs.map (Value.int .i64)
  | [], _, h => h
  | x :: xs, _, ⟨c, r, e, hp, hr⟩ => by
    have h1 : c = [Value.int .i64 x] := hp
    rw [e, h1, flat_int hr]; rfl
section
variable {P : Program}
theorem strParseInt_ok : Sound Tryz.prog 137 ⟨[.d .str none], [.d (.int .i64) none, .d .bool none], fun x => parseIntF x⟩ := by
  refine ⟨fun args w => enters_fn Tryz.func137 rfl rfl args w, fun (x : ByteArray) (r : Int × Bool) hx F c w vals hw0 hS hM H hv => ?_⟩
  have hv0 : VRs c w [.val .str x] vals := hv
  simp only [VRs] at hv0
  obtain ⟨v1, q, rfl, e1, rfl⟩ := hv0
  simp only [VR] at e1
  have e1 := (Rd.sca rfl).1 e1
  simp only [List.cons.injEq, and_true] at e1
  subst e1
  have hg : GN ≤ w.heap.size ∧ GP w.heap := by rw [← hw0]; exact ⟨F.gle, F.gok⟩
  have hx0 : parseIntF x = some r := hx
  unfold parseIntF at hx0
  split at hx0
  · rename_i hl
    cases hx0
    exact (parseInt_calls x hl w hg.2 hg.1).mono fun e w' ⟨he, hB⟩ => ⟨_, he, post_sca (us := [⟨.int .i64, (parseIntR x).1⟩, ⟨.bool, (parseIntR x).2⟩]) rfl hw0 H hB⟩
  · cases hx0
theorem post_ag3 {F : Fr} {c : Ctx} {w w' : World} {k d v : Int} {b : Bool} (hw0 : F.w0 = w) (H : HR F c w []) (hB : Below w.heap.size w w') :
    Post F c w [.ag [.d (.int .i64) none, .d (.int .i64) none, .d (.int .i64) none], .d .bool none] [] [] [⟨.int .i64, k⟩, ⟨.int .i64, d⟩, ⟨.int .i64, v⟩, ⟨.bool, b⟩] (.tuple #[.agg #[.int .i64 k, .int .i64 d, .int .i64 v], .bool b]) w' := by
  subst hw0
  obtain ⟨b1, b2, b3, b4, b5⟩ := hB
  refine ⟨c, [], [.agg [.val (.int .i64) k, .val (.int .i64) d, .val (.int .i64) v], .val .bool b], [.agg #[.int .i64 k, .int .i64 d, .int .i64 v], .bool b], ⟨[⟨.int .i64, k⟩, ⟨.int .i64, d⟩, ⟨.int .i64, v⟩, ⟨.bool, b⟩], [], [], [], []⟩, ⟨fun k hk => ⟨hk, b5 k (H.stays k hk)⟩, by intro d hd; cases hd⟩, ?_, ?_, ?_, rfl, List.nodup_nil, rfl, rfl, (by intro b hb; cases hb), ?_, ?_⟩
  · exact ⟨(by intro b x hb; cases hb), (by intro b x g hb; cases hb), (by intro b d x y g _ hb; cases hb), ⟨b1, b2, b3, b4, fun k hk _ => b5 k hk⟩, fun k hk => Nat.lt_of_lt_of_le (H.stays k hk) b4, H.grew⟩
  · refine VRs.cons' ?_ (VRs.one (VR.val' ((Rd.sca rfl).2 rfl)))
    simp only [VR]
    exact ⟨_, rfl, VRs.cons' (VR.val' ((Rd.sca rfl).2 rfl)) (VRs.cons' (VR.val' ((Rd.sca rfl).2 rfl)) (VRs.one (VR.val' ((Rd.sca rfl).2 rfl))))⟩
  · rfl
  · rfl
  · simp [BoxAt]
theorem strStepOf_ok : Sound Tryz.prog 97 ⟨[.d .str none, .d (.sl (.int .i64)) none], [.ag [.d (.int .i64) none, .d (.int .i64) none, .d (.int .i64) none], .d .bool none], fun x => stepOfF x.1 x.2⟩ := by
  refine ⟨fun args w => enters_fn Tryz.func97 rfl rfl args w, fun (x : ByteArray × List Int) (r : Int × Int × Int × Bool) hx F c w vals hw0 hS hM H hv => ?_⟩
  have hv0 : VRs c w [.val .str x.1, .val (.sl (.int .i64)) x.2] vals := hv
  simp only [VRs] at hv0
  obtain ⟨v1, q, rfl, e1, v2, q2, rfl, e2, rfl⟩ := hv0
  simp only [VR] at e1 e2
  have e1 := (Rd.sca rfl).1 e1
  simp only [List.cons.injEq, and_true] at e1
  subst e1
  obtain ⟨A, cap, inner, hsl, ⟨hcap, hA⟩, hfl, hin⟩ := e2
  simp only [List.cons.injEq, and_true] at hsl
  subst hsl
  obtain ⟨s, xs⟩ := x
  dsimp only at *
  have hx0 : stepOfF s xs = some r := hx
  unfold stepOfF at hx0
  split at hx0
  · rename_i hl
    split at hx0
    · rename_i hk
      cases hx0
      exact (stepOf_miss s A xs.length cap w (kindOf_none hk)).mono fun e w' ⟨he, hB⟩ => ⟨_, he, post_ag3 (k := 0) (d := 0) (v := 0) (b := false) hw0 H hB⟩
    · rename_i k d v hk
      obtain ⟨⟨i, hf⟩, hcv⟩ := kindOf_cv hk
      have hin0 := flat_int hfl
      subst hin0
      have hx1 : xs.length ≠ 0 → ∀ a, A = some a → a.block < w.heap.size ∧ a.spot = none ∧ ∀ j x, xs[j]? = some x → w.cell? ⟨a.block, a.off + j, none⟩ = some (.int .i64 x) := fun hn a ha => by
        obtain ⟨ad, hd, hs, hcell⟩ := hin (fun e => hn (by rw [← List.length_map (Value.int .i64), e]; rfl))
        rw [ha] at hd
        cases hd
        have hsp : a.spot = none := by
          cases xs with
          | nil => exact absurd rfl hn
          | cons y ys =>
            have h00 := hcell 0 (.int .i64 y) rfl
            unfold Addr.add at h00
            rw [if_pos rfl] at h00
            unfold World.cell? at h00
            split at h00
            · split at h00
              · cases h00
              · rename_i hz; cases hq : a.spot with
                | none => rfl
                | some _ => rw [hq] at hz; simp at hz
            · cases h00
        refine ⟨H.stays _ hs, hsp, fun j x hj => ?_⟩
        have := hcell j (.int .i64 x) (by rw [List.getElem?_map, hj]; rfl)
        rw [← this]
        obtain ⟨bk, o, sp⟩ := a
        have hsp : sp = none := hsp
        subst hsp
        unfold Addr.add
        by_cases h0 : j = 0
        · subst h0; rfl
        · rw [if_neg h0]
      have hA1 : xs.length ≠ 0 → A ≠ none := fun hn e => hn (by have := hA e; omega)
      have hh := stepOf_hit s A xs.length cap xs w i k d v hf hcv rfl hl hx1 hA1
      split at hx0
      · rename_i hq
        cases hx0
        rw [if_pos hq] at hh
        exact hh.mono fun e w' ⟨he, hB⟩ => ⟨_, he, post_ag3 hw0 H hB⟩
      · rename_i hq
        cases hx0
        rw [if_neg hq] at hh
        exact hh.mono fun e w' ⟨he, hB⟩ => ⟨_, he, post_ag3 (k := 0) (d := 0) (v := 0) (b := false) hw0 H hB⟩
  · cases hx0
end
end Go.Proofs.YtiacidpjplmgaaaGreatDoorD
