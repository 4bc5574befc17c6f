/- What is told: the words of a text, and lists. -/
import Derived.Test.YtodcbcpjlhlakaaDoorR16
import Derived.Lib.SplitLaws
set_option linter.unusedVariables false
set_option linter.unusedSimpArgs false
namespace Go.Proofs.YtodcbcpjlhlakaaDoor.W
open Go.RowKit Go.Proofs.YtodcbcpjlhlakaaDoor.B Go.Proofs

theorem wordsOf_length (c : UInt8) (s : List UInt8) : (wordsOf c s).length = Lib.countB ⟨s.toArray⟩ ⟨#[c]⟩ + 1 := by
  unfold wordsOf
  rw [List.length_map, Lib.splitB_all ⟨#[c]⟩ (Nat.le_refl 1) 0 _ _ rfl]
/-- strings.Split at one byte. -/
theorem split_to (c : UInt8) (s : List UInt8) (hs : s.length ≤ 4000000000) (w : World) (he : Env w) {ws : List (List UInt8)} (hw : wordsOf c s = ws) :
    Calls Tryd.prog 30 #[.string ⟨s.toArray⟩, .string ⟨#[c]⟩] w fun e w' => ∃ G, e = .returned (.slice (some ⟨G, 0, none⟩) ws.length ws.length) ∧ (∀ (j : Nat) (x : List UInt8), ws[j]? = some x → w'.cell? ⟨G, j, none⟩ = some (.string ⟨x.toArray⟩)) ∧ Below w.heap.size w w' := by
  obtain ⟨m, hm⟩ := he.2.2.2
  refine (Tryd.strings_Split ⟨s.toArray⟩ ⟨#[c]⟩ m w (by show s.length < _; omega) hm (Nat.le_refl 1)).mono ?_
  rintro e w' ⟨rfl, rfl⟩
  refine ⟨w.heap.size, ?_, fun j x hx => ?_, below_al _ _⟩
  · rw [← hw, wordsOf_length]
  · rw [← hw] at hx
    unfold wordsOf at hx
    rw [List.getElem?_map] at hx
    obtain ⟨z, hz, rfl⟩ := Option.map_eq_some_iff.1 hx
    rw [World.cell?_alloc_mark]
    rw [List.getElem?_toArray, List.getElem?_map, hz]
    rfl
/-- The lists of a word; a stroke: none. -/
def listsL (s : List UInt8) : List (List UInt8) := if s = [45] then [] else (wordsOf 44 s).map bytesL
set_option maxHeartbeats 2000000 in
set_option maxRecDepth 100000 in
theorem lists_any (s : List UInt8) (hs : s.length ≤ 4000000) (w : World) (he : Env w) (hwl : (wordsOf 44 s).length ≤ 4000000) (hwx : ∀ x ∈ wordsOf 44 s, x.length ≤ 4000000) :
    Calls Tryd.prog 39 #[.string ⟨s.toArray⟩] w fun e w' => ∃ r, e = .returned r ∧ OwW w' w.heap.size r (listsL s) ∧ Below w.heap.size w w' := by
  by_cases h : s = [45]
  · have HE : As (listsL s = []) := ⟨by unfold listsL; rw [if_pos h]⟩
    subst h
    go_enter Tryd.func39, Tryd.ntmps39
    go_wp2
    go_ret
    exact ⟨_, rfl, by rw [HE.out]; exact OwW.nil _ _, Below.refl _ _⟩
  · obtain ⟨ws, hw⟩ : ∃ ws, wordsOf 44 s = ws := ⟨_, rfl⟩
    have HE : As (listsL s = ws.map bytesL) := ⟨by unfold listsL; rw [if_neg h, hw]⟩
    have hne : (s == [45]) = false := beq_eq_false_iff_ne.2 h
    rw [hw] at hwl hwx
    have HW := As.mk hw
    have HWX := As.mk hwx
    have HEN := As.mk he
    have HS : As (s.length ≤ 4000000000) := ⟨by omega⟩
    have hl : (ws.length : Int) ≤ 4000000 := by omega
    clear h hw hwx hwl he hs
    go_enter Tryd.func39, Tryd.ntmps39
    go_wp2_with (go_at_call 30; (with_reducible refine (split_to 44 s HS.out _ HEN.out HW.out).mono ?_); rintro e w1 ⟨G, rfl, hc, hb⟩; have HC := As.mk hc; have HB1 := As.mk hb; clear hc hb)
    go_loopw [3, 11] (fun v3 v11 wr => ∃ k : Nat, v11 = .int .i64 (k : Int) ∧ (k : Int) ≤ ws.length ∧ As (OwW wr w1.heap.size v3 ((ws.take k).map bytesL)) ∧ As (Below w1.heap.size w1 wr)) (fun _ v11 _ => ws.length - (intOf v11).toNat)
    case atStart => exact ⟨0, rfl, by omega, ⟨OwW.nil _ _⟩, ⟨Below.refl _ _⟩⟩
    case round =>
      obtain ⟨k, rfl, hk, HO, HB⟩ := hrel
      by_cases hlt : (k : Int) < ws.length
      · obtain ⟨x, hx⟩ : ∃ x, ws[k]? = some x := ⟨_, List.getElem?_eq_getElem (by omega)⟩
        have hcell := cell_below HB.out (HC.out k x hx)
        have HX : As ((ws.take (k + 1)).map bytesL = (ws.take k).map bytesL ++ [bytesL x]) := ⟨map_snoc hx⟩
        have HXX : As (x.length ≤ 4000000) := ⟨HWX.out x (List.mem_of_getElem? hx)⟩
        have HKL : As (((ws.take k).map bytesL).length ≤ 4000000) := ⟨by rw [List.length_map, List.length_take]; omega⟩
        have HLT := As.mk (fun b hb => (OwW.lt HO.out b hb).2)
        clear hx
        go_wp2_with (first | (go_at_call 40; (with_reducible refine (bytes_any x HXX.out _).mono ?_); rintro e w2 ⟨r2, rfl, ho, hb⟩; obtain ⟨A2, c2, rfl, -⟩ := RdB.form ho.rd; have HO2 := As.mk (OwW.below HO.out hb); have HX2 := As.mk ho; have HB2 := As.mk (HB.out.trans (hb.mono HB.out.size)); clear ho hb hcell) | (at_builtin; refine wpList_appW w1.heap.size rfl (.tmp 15) (.tmp 18) rfl u3 rfl w2.heap.size rfl (.slice A2 (bytesL x).length c2) ?hc rfl ((ws.take k).map bytesL) (bytesL x) (OwW.below HO2.out (below_al _ _)) ⟨OwS.below (OwS.mono HX2.out HB.out.size) (below_al _ _), fun b hb e => (by have q1 := HX2.out.lt b hb; have q2 := HLT.out b e; omega)⟩ HKL.out (by have := HB2.out.size; simp; omega) ?_; (case hc => simp); intro v4 w4 ho hg; have HO4 : As (OwW w4 w1.heap.size v4 ((ws.take (k + 1)).map bytesL)) := ⟨by rw [HX.out]; exact ho⟩; have HB4 := As.mk ((HB2.out.alloc HB2.out.size _).grown hg (by have := HB2.out.size; simp; omega) (fun b hb => (OwW.lt HO.out b hb).1)); clear ho hg))
        go_roundw
        case rel => exact ⟨k + 1, by go_num, by omega, HO4, HB4⟩
        case measure => simp [intOf]; omega
      · have hkN : k = ws.length := by omega
        have HF : As ((ws.take k).map bytesL = listsL s) := ⟨by rw [hkN, List.take_length, HE.out]⟩
        clear hkN
        go_wp2
        go_ret
        refine ⟨_, rfl, ?_, HB1.out.trans (HB.out.mono HB1.out.size)⟩
        rw [← HF.out]
        obtain ⟨us, k1, k2⟩ := HO.out
        exact ⟨us, OwS.mono k1 HB1.out.size, fun i b hb => by obtain ⟨u, q1, q2, q3⟩ := k2 i b hb; exact ⟨u, q1, OwS.mono q2 HB1.out.size, q3⟩⟩
end Go.Proofs.YtodcbcpjlhlakaaDoor.W
