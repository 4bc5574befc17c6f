/- Regions that draw their order, where a condition on the world falls once an operation has come up. -/
import Derived.Test.YtfggkljgfadacaaT31
import Derived.Test.YtfggkljgfadacaaD3
set_option linter.unusedVariables false
set_option linter.unusedSimpArgs false
namespace Go.Proofs.Ytfggkljgfadacaa.W
open Go.RowKit Go.Proofs.Ytfggkljgfadacaa.B Go.Proofs

section
variable {P : Program} {ops : Array Oper} {Q : Exit → Act → World → Prop} {md : Region.Mode}
/-- Conditions, each till an operation has come up. -/
def SV (conds : List (Nat × (World → Prop))) (L : Array Bool) (w : World) : Prop := ∀ q ∈ conds, L.getD q.1 true = false → q.2 w
def wpAnyV (P : Program) (md : Region.Mode) (ops : Array Oper) (Q : Exit → Act → World → Prop) (S : Array Bool → World → Prop) : Nat → Array Bool → Act → World → Prop
  | 0, listed, a, w => Region.ready md ops listed = [] ∧ Q .normal a w
  | fuel + 1, listed, a, w =>
    (Region.ready md ops listed = [] → Q .normal a w) ∧
    ∀ i ∈ Region.ready md ops listed, wpOp P ops Q i (fun a' w' => S (listed.setIfInBounds i true) w' ∧ wpAnyV P md ops Q S fuel (listed.setIfInBounds i true) a' w') a w
variable {S : Array Bool → World → Prop}
theorem wpAny_of_heldV : ∀ (fuel : Nat) (listed : Array Bool) (a : Act) (w : World), wpAnyV P md ops Q S fuel listed a w → wpAny P md ops Q fuel listed a w
  | 0, _, _, _, h => h
  | fuel + 1, _, _, _, h => ⟨h.1, fun i hi => wpOp_mono (fun a' w' h' => wpAny_of_heldV fuel _ a' w' h'.2) (h.2 i hi)⟩
theorem wpAnyV_first {i : Nat} {oi : Oper} {v : Value} {T : World → Prop} {good : Array Bool → Prop} (hi : ops[i]? = some oi) (hsel : ∀ (j : Nat) (o : Oper) cs b, ops[j]? = some o → o.op ≠ .select cs b)
    (hQ : ∀ c a w, Q (.panic c) (a.put oi.dst v) w → Q (.panic c) a w)
    (hT : ∀ (L : Array Bool) (w : World), good L → S L w → T w) (hgood : ∀ (L : Array Bool) (j : Nat) (oj : Oper), good L → ops[j]? = some oj → (∀ e ∈ oj.after, Region.binds md e = true → e.on ≠ i) → good (L.setIfInBounds j true))
    (hS1 : ∀ (L : Array Bool) (w : World), S L w → S (L.setIfInBounds i true) w) (hS2 : ∀ (L : Array Bool) (j : Nat) (w : World), S ((L.setIfInBounds i true).setIfInBounds j true) w → S (L.setIfInBounds j true) w) :
    ∀ (fuel : Nat) (listed : Array Bool) (a : Act) (w : World),
      (∀ j oj, ops[j]? = some oj → j ≠ i → listed.getD j true = false → (∀ e ∈ oj.after, Region.binds md e = true → e.on ≠ i) → oi.apart ops oj = true) →
      good listed → i ∈ Region.ready md ops listed → YieldsIf P ops T oi v a → S listed w →
      wpAnyV P md ops Q S fuel (listed.setIfInBounds i true) (a.put oi.dst v) w → wpAnyV P md ops Q S (fuel + 1) listed a w := by
  intro fuel
  induction fuel with
  | zero =>
    intro listed a w _ hgd hr hy hS H
    refine ⟨fun h => (by rw [h] at hr; cases hr), fun j hj => ?_⟩
    by_cases hji : j = i
    · subst hji; exact hy.wpOp hi (hT _ _ hgd hS) ⟨hS1 _ _ hS, H⟩
    · have := ready_mono hj hji
      rw [H.1] at this
      cases this
  | succ fuel ih =>
    intro listed a w hfree hgd hr hy hS H
    refine ⟨fun h => (by rw [h] at hr; cases hr), fun j hj => ?_⟩
    by_cases hji : j = i
    · subst hji; exact hy.wpOp hi (hT _ _ hgd hS) ⟨hS1 _ _ hS, H⟩
    · have h1 := H.2 j (ready_mono hj hji)
      obtain ⟨hjun, oj, hoj, hall⟩ := mem_ready.1 hj
      have hnot : ∀ e ∈ oj.after, Region.binds md e = true → e.on ≠ i := fun e he hb heq => by
        have h1 := hall e he hb
        have h0 := (mem_ready.1 hr).1
        rw [heq] at h1
        rcases Nat.lt_or_ge i listed.size with h' | h'
        · simp [h'] at h0 h1; rw [h0] at h1; cases h1
        · simp [Array.getElem?_eq_none h'] at h1
      have h2 := wpOp_putIf hoj (hfree j oj hoj hji hjun hnot) (fun cs b => hsel i oi cs b hi) (fun cs b => hsel j oj cs b hoj) hQ hy h1
      have hfree' : ∀ k ok, ops[k]? = some ok → k ≠ i → (listed.setIfInBounds j true).getD k true = false →
          (∀ e ∈ ok.after, Region.binds md e = true → e.on ≠ i) → oi.apart ops ok = true := fun k ok hk hki hun hno => by
        refine hfree k ok hk hki ?_ hno
        by_cases hjk : j = k
        · subst hjk; exact hjun
        · rw [getD_set_ne true hjk] at hun; exact hun
      refine wpOp_mono (fun a' w' h3 => ⟨hS2 _ _ _ h3.2.1, ih (listed.setIfInBounds j true) a' w' hfree' (hgood _ _ _ hgd hoj hnot) (ready_mono hr (Ne.symm hji)) h3.1 (hS2 _ _ _ h3.2.1) ?_⟩) h2
      rw [Array.setIfInBounds_comm _ _ hji]
      exact h3.2.2
theorem SV.one {conds : List (Nat × (World → Prop))} {i : Nat} {L : Array Bool} {w : World} (hne : ∀ q ∈ conds, q.1 ≠ i) (h : SV conds L w) : SV conds (L.setIfInBounds i true) w := fun q hq hL => by
  rw [getD_set_ne true (fun e => hne q hq e.symm)] at hL
  exact h q hq hL
theorem SV.two {conds : List (Nat × (World → Prop))} {i j : Nat} {L : Array Bool} {w : World} (hne : ∀ q ∈ conds, q.1 ≠ i) (h : SV conds ((L.setIfInBounds i true).setIfInBounds j true) w) : SV conds (L.setIfInBounds j true) w := fun q hq hL => by
  refine h q hq ?_
  by_cases hij : i = j
  · subst hij
    rw [getD_set_ne true (fun e => hne q hq e.symm)] at hL ⊢
    rw [getD_set_ne true (fun e => hne q hq e.symm)]
    exact hL
  · rw [Array.setIfInBounds_comm _ _ hij, getD_set_ne true (fun e => hne q hq e.symm)]
    exact hL
variable {conds : List (Nat × (World → Prop))}
/-- Taken first: it needs no condition. -/
theorem wpAnyV_take0 {i : Nat} {oi : Oper} {v : Value} {fuel : Nat} {listed : Array Bool} {a : Act} {w : World} (hi : ops[i]? = some oi)
    (hs : Region.noSelect ops = true) (hf : Region.free md ops listed i = true) (hr : (Region.ready md ops listed).contains i = true)
    (hQ : ∀ c a w, Q (.panic c) (a.put oi.dst v) w → Q (.panic c) a w) (hne : ∀ q ∈ conds, q.1 ≠ i) (hy : YieldsIf P ops (fun _ => True) oi v a) (hS : SV conds listed w)
    (h : wpAnyV P md ops Q (SV conds) fuel (listed.setIfInBounds i true) (a.put oi.dst v) w) : wpAnyV P md ops Q (SV conds) (fuel + 1) listed a w :=
  wpAnyV_first (T := fun _ => True) (good := fun _ => True) hi (Region.noSelect_spec hs) hQ (fun _ _ _ _ => trivial) (fun _ _ _ _ _ _ => trivial) (fun _ _ => SV.one hne) (fun _ _ _ => SV.two hne) fuel listed a w (Region.free_spec hi hf) trivial (by simpa using hr) hy hS h
/-- Taken first: what it needs holds till b has come up, and b waits for it. -/
theorem wpAnyV_take {i b : Nat} {oi ob : Oper} {v : Value} {T : World → Prop} {fuel : Nat} {listed : Array Bool} {a : Act} {w : World} (hi : ops[i]? = some oi)
    (hs : Region.noSelect ops = true) (hf : Region.free md ops listed i = true) (hr : (Region.ready md ops listed).contains i = true)
    (hQ : ∀ c a w, Q (.panic c) (a.put oi.dst v) w → Q (.panic c) a w) (hne : ∀ q ∈ conds, q.1 ≠ i) (hob : ops[b]? = some ob) (hw : (ob.after.any fun e => Region.binds md e && e.on == i) = true) (hbl : listed.getD b true = false)
    (hmem : (b, T) ∈ conds) (hy : YieldsIf P ops T oi v a) (hS : SV conds listed w)
    (h : wpAnyV P md ops Q (SV conds) fuel (listed.setIfInBounds i true) (a.put oi.dst v) w) : wpAnyV P md ops Q (SV conds) (fuel + 1) listed a w :=
  wpAnyV_first (T := T) (good := fun L => L.getD b true = false) hi (Region.noSelect_spec hs) hQ (fun L w hg hS => hS _ hmem hg)
    (fun L j oj hg hj hnot => by
      by_cases hjb : j = b
      · subst hjb
        rw [hob] at hj
        obtain rfl := Option.some.inj hj
        obtain ⟨k, hk, he⟩ := Array.any_eq_true.1 hw
        rw [Bool.and_eq_true, beq_iff_eq] at he
        exact absurd he.2 (hnot _ (Array.getElem_mem hk) he.1)
      · rw [getD_set_ne true hjb]; exact hg)
    (fun _ _ => SV.one hne) (fun _ _ _ => SV.two hne) fuel listed a w (Region.free_spec hi hf) hbl (by simpa using hr) hy hS h
def AllReadyV (P : Program) (md : Region.Mode) (ops : Array Oper) (Q : Exit → Act → World → Prop) (S : Array Bool → World → Prop) (fuel : Nat) (listed : Array Bool) (a : Act) (w : World) (rs : List Nat) : Prop :=
  ∀ i ∈ rs, wpOp P ops Q i (fun a' w' => S (listed.setIfInBounds i true) w' ∧ wpAnyV P md ops Q S fuel (listed.setIfInBounds i true) a' w') a w
theorem AllReadyV.nil {fuel : Nat} {listed : Array Bool} {a : Act} {w : World} : AllReadyV P md ops Q S fuel listed a w [] := fun _ h => by cases h
theorem AllReadyV.cons {fuel : Nat} {listed : Array Bool} {a : Act} {w : World} {i : Nat} {o : Oper} {rs : List Nat} (ho : ops[i]? = some o)
    (h : ∀ K' : Act → World → Prop, Shut (∀ a w, S (listed.setIfInBounds i true) w → (S (listed.setIfInBounds i true) w → wpAnyV P md ops Q S fuel (listed.setIfInBounds i true) a w) → K' a w) → if Region.wanted o (yielded ops a.tmps) = true then Oper.wp P o a w K' Q else K' (a.put o.dst undef) w)
    (hs : AllReadyV P md ops Q S fuel listed a w rs) : AllReadyV P md ops Q S fuel listed a w (i :: rs) := fun j hj => by
  rcases List.mem_cons.1 hj with rfl | hj
  · exact wpOp_step ho (fun K' hK => h K' (fun a w hS hW => hK a w ⟨hS, hW hS⟩))
  · exact hs j hj
theorem wpAnyV_ready {rs : List Nat} {fuel : Nat} {listed : Array Bool} {a : Act} {w : World} (hr : Region.ready md ops listed = rs) (hne : rs ≠ [])
    (h : AllReadyV P md ops Q S fuel listed a w rs) : wpAnyV P md ops Q S (fuel + 1) listed a w := ⟨fun h0 => absurd (hr ▸ h0) hne, hr ▸ h⟩
theorem wpAnyV_done {listed : Array Bool} {a : Act} {w : World} (hr : Region.ready md ops listed = []) (h : Q .normal a w) :
    ∀ fuel, wpAnyV P md ops Q S fuel listed a w
  | 0 => ⟨hr, h⟩
  | _ + 1 => ⟨fun _ => h, by rw [hr]; simp⟩
theorem wp_region_V {id : Nat} {a : Act} {w : World} (hm : P.follows .mixedOrders = true) (hS : SV conds (Array.replicate ops.size false) w.drew)
    (h : SV conds (Array.replicate ops.size false) w.drew → wpAnyV P .any ops Q (SV conds) ops.size (Array.replicate ops.size false) a w.drew) : (Code.region id ops true).wp P Q a w :=
  wp_region_any hm (wpAny_of_heldV _ _ _ _ (h hS))
end
end Go.Proofs.Ytfggkljgfadacaa.W
