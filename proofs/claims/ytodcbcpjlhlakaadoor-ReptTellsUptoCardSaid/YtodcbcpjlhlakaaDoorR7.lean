/- What is told: the document's rows. -/
import Derived.Test.YtodcbcpjlhlakaaDoorR6
set_option linter.unusedVariables false
set_option linter.unusedSimpArgs false
namespace Go.Proofs.YtodcbcpjlhlakaaDoor.W
open Go.RowKit Go.Proofs.YtodcbcpjlhlakaaDoor.B Go.Proofs

theorem itoa_short (n : Int) (h0 : -9223372036854775808 ≤ n) (h1 : n ≤ 9223372036854775807) : (Lib.itoa n).length ≤ 21 := by
  unfold Lib.itoa
  split
  · have := nDigits_20 n.natAbs (by omega)
    rw [List.length_cons, Lib.decDigits_length]; omega
  · have := nDigits_20 n.toNat (by omega)
    rw [Lib.decDigits_length]; omega
theorem join_snoc (l : List (List UInt8)) (y : List UInt8) : Lib.join (l ++ [y]) [44] = if l = [] then y else Lib.join l [44] ++ [44] ++ y := by
  cases l with
  | nil => simp [Lib.join_one]
  | cons a r =>
    rw [if_neg (by simp), List.cons_append, Lib.join_cons, Lib.join_cons]
    simp [Lib.joinTail]
theorem join_bound {f : List UInt8 → List UInt8} (n : Nat) (xs : List (List UInt8)) (hf : ∀ x ∈ xs, (f x).length ≤ n) : (Lib.join (xs.map f) [44]).length ≤ xs.length * (n + 1) := by
  have h2 : ∀ r : List (List UInt8), (∀ x ∈ r, (f x).length ≤ n) → (Lib.joinTail [44] (r.map f)).length ≤ r.length * (n + 1) := by
    intro r
    induction r with
    | nil => simp [Lib.joinTail]
    | cons x r ih =>
      intro h
      have h1 := h x (List.mem_cons_self ..)
      have ih := ih (fun y hy => h y (List.mem_cons_of_mem _ hy))
      simp only [Lib.joinTail, List.map_cons, List.flatten_cons, List.length_append, List.length_cons, List.length_nil] at ih ⊢
      rw [Nat.add_mul]
      omega
  cases xs with
  | nil => simp [Lib.join_nil]
  | cons x r =>
    have h1 := hf x (List.mem_cons_self ..)
    have := h2 r (fun y hy => hf y (List.mem_cons_of_mem _ hy))
    rw [List.map_cons, Lib.join_cons, List.length_append, List.length_cons, Nat.add_mul]
    omega
theorem hexL_length (b : List UInt8) : (hexL b).length ≤ 2 * b.length + 1 := by
  unfold hexL
  split
  · simp
  · rw [hex2_length]; omega
theorem take_join {f : List UInt8 → List UInt8} {xs : List (List UInt8)} {k : Nat} {x : List UInt8} (h : xs[k]? = some x) :
    Lib.join ((xs.take (k + 1)).map f) [44] = if k = 0 then f x else Lib.join ((xs.take k).map f) [44] ++ [44] ++ f x := by
  obtain ⟨hk, _⟩ := List.getElem?_eq_some_iff.1 h
  rw [map_snoc h, join_snoc]
  by_cases h0 : k = 0
  · subst h0; simp
  · rw [if_neg h0, if_neg]
    intro e
    have := congrArg List.length e
    rw [List.length_map, List.length_take] at this
    have h2 : ([] : List (List UInt8)).length = 0 := rfl
    omega
set_option maxHeartbeats 2000000 in
set_option maxRecDepth 100000 in
theorem qrows_any (v : Value) (xs : List (List UInt8)) (w : World) (hr : RdW w v xs) (hl : xs.length ≤ 4000000) (hx : ∀ x ∈ xs, x.length ≤ 2000000) :
    Calls Tryd.prog 26 #[v] w fun e w' => e = .returned (str (joinL (xs.map hexL))) ∧ Below w.heap.size w w' := by
  obtain ⟨A, c, rfl, -⟩ := hr.form
  have HR := As.mk hr
  have HL : As ((xs.length : Int) ≤ 4000000) := ⟨by omega⟩
  have hl' := HL.out
  have HFA : As (∀ x ∈ xs, (hexL x).length ≤ 4000001) := ⟨fun x hm => by have := hexL_length x; have := hx x hm; omega⟩
  have HXL := As.mk hx
  clear hr hl hx
  go_enter Tryd.func26, Tryd.ntmps26
  go_wp2
  go_loopw [3, 4] (fun v3 v4 wr => ∃ k : Nat, v4 = .int .i64 (k : Int) ∧ (k : Int) ≤ xs.length ∧ v3 = .string ⟨(Lib.join ((xs.take k).map hexL) [44]).toArray⟩ ∧ As (Below w.heap.size w wr)) (fun _ v4 _ => xs.length - (intOf v4).toNat)
  case atStart => exact ⟨0, rfl, by omega, rfl, ⟨Below.refl _ _⟩⟩
  case round =>
    obtain ⟨k, rfl, hk, rfl, HB⟩ := hrel
    by_cases hlt : (k : Int) < xs.length
    · obtain ⟨x, hx⟩ : ∃ x, xs[k]? = some x := ⟨_, List.getElem?_eq_getElem (by omega)⟩
      have HFL : As ((hexL x).length ≤ 4000001) := ⟨HFA.out x (List.mem_of_getElem? hx)⟩
      have HXJ := As.mk (take_join (f := hexL) hx)
      have HSL0 : (Lib.join ((xs.take k).map hexL) [44]).length ≤ 20000000000000 := by
        have h := join_bound 4000001 (xs.take k) (f := hexL) (fun y hy => HFA.out y (List.mem_of_mem_take hy))
        have h2 : (xs.take k).length ≤ 4000000 := by rw [List.length_take]; omega
        have := Nat.mul_le_mul_right 4000002 h2
        omega
      obtain ⟨g, o, B, d, rfl, hcell, hb⟩ := RdW.at (HR.out.below HB.out) k x hx
      have HBX := As.mk hb
      have HXX : As (x.length ≤ 2000000) := ⟨HXL.out x (List.mem_of_getElem? hx)⟩
      clear hx hb
      by_cases h0 : k = 0
      · have HX : As (Lib.join ((xs.take (k + 1)).map hexL) [44] = [] ++ hexL x) := ⟨by rw [HXJ.out, if_pos h0]; rfl⟩
        subst h0
        rw [Nat.add_zero] at hcell
        have HSL : As (([] : List UInt8).length ≤ 20000000000000) := ⟨by decide⟩
        have he : Lib.join ((xs.take 0).map hexL) [44] = [] := rfl
        rw [he]
        clear he HSL0
        go_wp2_with (first | (go_at_call 6; (with_reducible refine (qhex_any _ x _ HBX.out HXX.out).mono ?_); rintro e w1 ⟨rfl, hb⟩; have HB1 := As.mk (HB.out.trans (hb.mono HB.out.size)); unfold str; clear hb hcell) | ((with_reducible refine wpList_cat ?hgd (.tmp 15) (.tmp 20) rfl [] (hexL x) ?hx ?hy ?hl ?_); (case hgd => exact rfl); (case hx => exact rfl); (case hy => exact rfl); (case hl => have := HSL.out; have := HFL.out; show 0 + _ ≤ _; omega)))
        go_roundw
        case rel => exact ⟨0 + 1, by go_num, by omega, by rw [HX.out]; rfl, HB1⟩
        case measure => simp [intOf]; omega
      · obtain ⟨S, hS⟩ : ∃ S, S = Lib.join ((xs.take k).map hexL) [44] := ⟨_, rfl⟩
        have HX : As (Lib.join ((xs.take (k + 1)).map hexL) [44] = S ++ [44] ++ hexL x) := ⟨by rw [HXJ.out, if_neg h0, hS]⟩
        have HSL : As (S.length ≤ 20000000000000) := ⟨by rw [hS]; exact HSL0⟩
        have hkp : (0 : Int) < (k : Int) := by omega
        rw [← hS]
        clear hS HSL0 h0
        go_wp2_with (first | (go_at_call 6; (with_reducible refine (qhex_any _ x _ HBX.out HXX.out).mono ?_); rintro e w1 ⟨rfl, hb⟩; have HB1 := As.mk (HB.out.trans (hb.mono HB.out.size)); unfold str; clear hb hcell) | ((with_reducible refine wpList_cat ?hgd (.tmp 13) (.const (.string ⟨#[44]⟩)) rfl S [44] ?hx ?hy ?hl ?_); (case hgd => exact rfl); (case hx => exact rfl); (case hy => exact rfl); (case hl => have := HSL.out; show S.length + 1 ≤ _; omega)) | ((with_reducible refine wpList_cat ?hgd (.tmp 15) (.tmp 20) rfl (S ++ [44]) (hexL x) ?hx ?hy ?hl ?_); (case hgd => exact rfl); (case hx => exact rfl); (case hy => exact rfl); (case hl => have := HSL.out; have := HFL.out; rw [List.length_append]; show S.length + 1 + _ ≤ _; omega)))
        go_roundw
        case rel => exact ⟨k + 1, by go_num, by omega, by rw [HX.out]; simp, HB1⟩
        case measure => simp [intOf]; omega
    · have hkN : k = xs.length := by omega
      have hkx : xs.take k = xs := by rw [hkN, List.take_length]
      rw [hkx]
      clear hkN hkx
      by_cases h0 : xs = []
      · have HE : As (joinL (xs.map hexL) = [45]) := ⟨by unfold joinL; rw [if_pos (by rw [h0]; rfl)]⟩
        have HE0 : As (joinL [] = [45]) := ⟨by unfold joinL; rw [if_pos rfl]⟩
        subst h0
        go_wp2
        go_ret
        first | rw [HE.out] | rw [HE0.out]
        exact ⟨rfl, HB.out⟩
      · have HE : As (joinL (xs.map hexL) = Lib.join (xs.map hexL) [44]) := ⟨by unfold joinL; rw [if_neg (fun e => h0 (List.map_eq_nil_iff.1 e))]⟩
        have hne : ((xs.length : Int) == 0) = false := by rw [beq_eq_false_iff_ne]; have := List.length_pos_iff.2 h0; omega
        have hpos : (0 : Int) < (xs.length : Int) := by have := List.length_pos_iff.2 h0; omega
        clear h0
        go_wp2
        go_ret
        rw [HE.out]
        exact ⟨rfl, HB.out⟩
set_option maxHeartbeats 2000000 in
set_option maxRecDepth 100000 in
theorem qids_any (v : Value) (xs : List (List UInt8)) (w : World) (hr : RdN w v xs) (hl : xs.length ≤ 2000000) :
    Calls Tryd.prog 28 #[v] w fun e w' => e = .returned (str (joinL (xs.map idL))) ∧ Below w.heap.size w w' := by
  obtain ⟨A, c, rfl, -⟩ := hr.form
  have HR := As.mk hr
  have HL : As ((xs.length : Int) ≤ 2000000) := ⟨by omega⟩
  have hl' := HL.out
  have HFA : As (∀ x ∈ xs, (idL x).length ≤ 4000001) := ⟨fun x _ => by have := idL_short x; omega⟩
  clear hr hl
  go_enter Tryd.func28, Tryd.ntmps28
  go_wp2
  go_loopw [3, 4] (fun v3 v4 wr => ∃ k : Nat, v4 = .int .i64 (k : Int) ∧ (k : Int) ≤ xs.length ∧ v3 = .string ⟨(Lib.join ((xs.take k).map idL) [44]).toArray⟩ ∧ As (Below w.heap.size w wr)) (fun _ v4 _ => xs.length - (intOf v4).toNat)
  case atStart => exact ⟨0, rfl, by omega, rfl, ⟨Below.refl _ _⟩⟩
  case round =>
    obtain ⟨k, rfl, hk, rfl, HB⟩ := hrel
    by_cases hlt : (k : Int) < xs.length
    · obtain ⟨x, hx⟩ : ∃ x, xs[k]? = some x := ⟨_, List.getElem?_eq_getElem (by omega)⟩
      have HFL : As ((idL x).length ≤ 4000001) := ⟨HFA.out x (List.mem_of_getElem? hx)⟩
      have HXJ := As.mk (take_join (f := idL) hx)
      have HSL0 : (Lib.join ((xs.take k).map idL) [44]).length ≤ 20000000000000 := by
        have h := join_bound 4000001 (xs.take k) (f := idL) (fun y hy => HFA.out y (List.mem_of_mem_take hy))
        have h2 : (xs.take k).length ≤ 2000000 := by rw [List.length_take]; omega
        have := Nat.mul_le_mul_right 4000002 h2
        omega
      obtain ⟨g, o, cs, rfl, hcl, ⟨hcs, hxl⟩, hrg⟩ := RdL.at (HR.out.below HB.out) k x hx
      have HCL := As.mk hcl
      have HRG := As.mk hrg
      have HCS := As.mk (And.intro hcs hxl)
      clear hx hcl hcs hxl hrg
      by_cases h0 : k = 0
      · have HX : As (Lib.join ((xs.take (k + 1)).map idL) [44] = [] ++ idL x) := ⟨by rw [HXJ.out, if_pos h0]; rfl⟩
        subst h0
        rw [Nat.zero_mul, Nat.add_zero] at HRG
        have HSL : As (([] : List UInt8).length ≤ 20000000000000) := ⟨by decide⟩
        have he : Lib.join ((xs.take 0).map idL) [44] = [] := rfl
        rw [he]
        clear he HSL0
        go_wp2_with (first | ((with_reducible refine wpList_load_mid (op := ⟨_, .load 22 (.tmp 18), _, _, _, _⟩) ?hgd 22 (.tmp 18) rfl _ _ ?hx cs _ HRG.out Tryd.underlying22 rfl ?hi ?_); (case hgd => exact rfl); (case hx => exact rfl); (case hi => rw [HCL.out]; kernel_rfl)) | (go_at_call 27; (with_reducible refine (qid_as cs x HCS.out.1 HCS.out.2 _).mono ?_); rintro e w1 ⟨rfl, hb⟩; have HB1 := As.mk (HB.out.trans (hb.mono HB.out.size)); unfold str; clear hb) | ((with_reducible refine wpList_cat ?hgd (.tmp 15) (.tmp 20) rfl [] (idL x) ?hx ?hy ?hl ?_); (case hgd => exact rfl); (case hx => exact rfl); (case hy => exact rfl); (case hl => have := HSL.out; have := HFL.out; show 0 + _ ≤ _; omega)))
        go_roundw
        case rel => exact ⟨0 + 1, by go_num, by omega, by rw [HX.out]; rfl, HB1⟩
        case measure => simp [intOf]; omega
      · obtain ⟨S, hS⟩ : ∃ S, S = Lib.join ((xs.take k).map idL) [44] := ⟨_, rfl⟩
        have HX : As (Lib.join ((xs.take (k + 1)).map idL) [44] = S ++ [44] ++ idL x) := ⟨by rw [HXJ.out, if_neg h0, hS]⟩
        have HSL : As (S.length ≤ 20000000000000) := ⟨by rw [hS]; exact HSL0⟩
        have hkp : (0 : Int) < (k : Int) := by omega
        rw [← hS]
        clear hS HSL0 h0
        go_wp2_with (first | ((with_reducible refine wpList_load_mid (op := ⟨_, .load 22 (.tmp 18), _, _, _, _⟩) ?hgd 22 (.tmp 18) rfl _ _ ?hx cs _ HRG.out Tryd.underlying22 rfl ?hi ?_); (case hgd => exact rfl); (case hx => exact rfl); (case hi => rw [HCL.out]; kernel_rfl)) | (go_at_call 27; (with_reducible refine (qid_as cs x HCS.out.1 HCS.out.2 _).mono ?_); rintro e w1 ⟨rfl, hb⟩; have HB1 := As.mk (HB.out.trans (hb.mono HB.out.size)); unfold str; clear hb) | ((with_reducible refine wpList_cat ?hgd (.tmp 13) (.const (.string ⟨#[44]⟩)) rfl S [44] ?hx ?hy ?hl ?_); (case hgd => exact rfl); (case hx => exact rfl); (case hy => exact rfl); (case hl => have := HSL.out; show S.length + 1 ≤ _; omega)) | ((with_reducible refine wpList_cat ?hgd (.tmp 15) (.tmp 20) rfl (S ++ [44]) (idL x) ?hx ?hy ?hl ?_); (case hgd => exact rfl); (case hx => exact rfl); (case hy => exact rfl); (case hl => have := HSL.out; have := HFL.out; rw [List.length_append]; show S.length + 1 + _ ≤ _; omega)))
        go_roundw
        case rel => exact ⟨k + 1, by go_num, by omega, by rw [HX.out]; simp, HB1⟩
        case measure => simp [intOf]; omega
    · have hkN : k = xs.length := by omega
      have hkx : xs.take k = xs := by rw [hkN, List.take_length]
      rw [hkx]
      clear hkN hkx
      by_cases h0 : xs = []
      · have HE : As (joinL (xs.map idL) = [45]) := ⟨by unfold joinL; rw [if_pos (by rw [h0]; rfl)]⟩
        have HE0 : As (joinL [] = [45]) := ⟨by unfold joinL; rw [if_pos rfl]⟩
        subst h0
        go_wp2
        go_ret
        first | rw [HE.out] | rw [HE0.out]
        exact ⟨rfl, HB.out⟩
      · have HE : As (joinL (xs.map idL) = Lib.join (xs.map idL) [44]) := ⟨by unfold joinL; rw [if_neg (fun e => h0 (List.map_eq_nil_iff.1 e))]⟩
        have hne : ((xs.length : Int) == 0) = false := by rw [beq_eq_false_iff_ne]; have := List.length_pos_iff.2 h0; omega
        have hpos : (0 : Int) < (xs.length : Int) := by have := List.length_pos_iff.2 h0; omega
        clear h0
        go_wp2
        go_ret
        rw [HE.out]
        exact ⟨rfl, HB.out⟩
end Go.Proofs.YtodcbcpjlhlakaaDoor.W
