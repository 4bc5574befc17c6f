/- What awake of layer 2 answers: true. -/
import Derived.Test.YtfggkljgfadacaaW2
set_option linter.unusedVariables false
set_option linter.unusedSimpArgs false
namespace Go.Proofs.Ytfggkljgfadacaa.W
open Go.RowKit Go.Proofs.Ytfggkljgfadacaa.B Go.Proofs

theorem nilB (w : World) : RdB w (.slice none 0 0) [] := RdB.nil w
theorem aw1 : ([] : List UInt8) ++ le 16909060 4 ++ cnt (clampU 253) = [4, 3, 2, 1, 253, 253, 0] := by decide
set_option maxHeartbeats 2000000 in
set_option maxRecDepth 100000 in
theorem awake2_any (w : World) : Calls Try.prog 24 #[] w fun e w' => e = .returned (.bool true) ∧ Below w.heap.size w w' := by
  have HB : As (Below w.heap.size w w) := ⟨Below.refl _ _⟩
  go_enter Try.func24, Try.ntmps24
  go_upto_region 3 with (first | (go_at_call 17; (with_reducible refine (small_any _ [] 16909060 _ _ (nilB _) (by decide) (by decide) (by omega)).mono ?_); rintro e w' ⟨r1, rfl, ho, hb⟩; have HO1 := As.mk ho; have HB2 := As.mk (HB.out.trans (hb.mono HB.out.size)); clear ho hb; clear HB; have HB := HB2; clear HB2) | (go_at_call 15; (with_reducible refine (count_any _ ([] ++ le 16909060 4) 253 _ HO1.out.rd (by decide)).mono ?_); rintro e w' ⟨r2, rfl, ho, hb⟩; have HO2 := As.mk ho; have HB2 := As.mk (HB.out.trans (hb.mono HB.out.size)); clear ho hb; clear HB; have HB := HB2; clear HB2) | (go_at_call 18; have HX := As.mk (aw1 ▸ HO2.out.rd); (go_at_call 18; (with_reducible refine (read_any _ [4, 3, 2, 1, 253, 253, 0] _ HX.out (by decide)).mono ?_); rintro e w' ⟨B, rfl, hB, hr, hb⟩; have HR := As.mk hr; have HBB := As.mk (Nat.le_trans HB.out.size hB); have HB2 := As.mk (HB.out.trans (hb.mono HB.out.size)); have HX2 := As.mk (HX.out.below hb); clear hr hb hB; clear HB; have HB := HB2; clear HB2; clear HX; have HX := HX2; clear HX2)))
  clear HO1 HO2
  obtain ⟨A, c, rfl, -⟩ := RdB.form HX.out
  have HX7 : As (RdB _ (Value.slice A 7 c) [4, 3, 2, 1, 253, 253, 0]) := ⟨HX.out⟩
  clear HX; have HX := HX7; clear HX7
  go_wp2_with (first | (go_at_call 19; (with_reducible refine (rsmall_to B [4, 3, 2, 1, 253, 253, 0] false _ (m := 16909060) (l' := [253, 253, 0]) (bad' := false) (by decide) HR.out).mono ?_); rintro e w' ⟨rfl, hr1, hg1⟩; have HR2 := As.mk hr1; have HB2 := As.mk (below_grown HB.out hg1 HBB.out HB.out.size); have HX2 := As.mk (HR.out.keep HX.out hg1); clear hr1 hg1; clear HR; have HR := HR2; clear HR2; clear HB; have HB := HB2; clear HB2; clear HX; have HX := HX2; clear HX2) | (go_at_call 21; (with_reducible refine (rcount_to B [253, 253, 0] false 253 _ (m := 253) (l' := []) (bad' := false) (by decide) HR.out (by omega) (by omega)).mono ?_); rintro e w' ⟨rfl, hr1, hg1⟩; have HR2 := As.mk hr1; have HB2 := As.mk (below_grown HB.out hg1 HBB.out HB.out.size); have HX2 := As.mk (HR.out.keep HX.out hg1); clear hr1 hg1; clear HR; have HR := HR2; clear HR2; clear HB; have HB := HB2; clear HB2; clear HX; have HX := HX2; clear HX2) | (go_at_call 22; (with_reducible refine (end_any B [] false _ HR.out).mono ?_); rintro e w' ⟨rfl, rfl⟩) | (go_at_call 20; (with_reducible refine (rbig_to B [] false _ (m := 0) (l' := []) (bad' := true) (by decide) HR.out).mono ?_); rintro e w' ⟨rfl, hr1, hg1⟩; have HR2 := As.mk hr1; have HB2 := As.mk (below_grown HB.out hg1 HBB.out HB.out.size); have HX2 := As.mk (HR.out.keep HX.out hg1); clear hr1 hg1; clear HR; have HR := HR2; clear HR2; clear HB; have HB := HB2; clear HB2; clear HX; have HX := HX2; clear HX2) | (with_reducible refine wpList_str (o := ⟨some 22, _, _, _, _, _⟩) ?hgd (.tmp 21) 24 9 5 rfl Try.underlying24 Try.underlying5 Try.underlying9 (.slice A 7 c) rfl ([4, 3, 2, 1, 253, 253, 0]) (HX.out) ?_; (case hgd => first | exact .inl rfl | exact .inr rfl)) | (go_at_call 23; (with_reducible refine (ok_any B [] true _ HR.out).mono ?_); rintro e w' ⟨rfl, rfl⟩) | (go_at_call 16; (with_reducible refine (big_any _ [] 1 _ _ (nilB _) (by decide) (by decide) (by omega)).mono ?_); rintro e w' ⟨r3, rfl, ho, hb⟩; obtain ⟨A3, c3, rfl, -⟩ := RdB.form ho.rd; have HO3 : As (RdB _ (.slice A3 8 c3) ([] ++ le 1 8)) := ⟨ho.rd⟩; have HB2 := As.mk (HB.out.trans (hb.mono HB.out.size)); clear ho hb HB) | (with_reducible refine wpList_str (o := ⟨some 46, _, _, _, _, _⟩) ?hgd (.tmp 45) 24 9 5 rfl Try.underlying24 Try.underlying5 Try.underlying9 (.slice A3 8 c3) rfl ([] ++ le 1 8) (HO3.out) ?_; (case hgd => first | exact .inl rfl | exact .inr rfl)))
  go_ret
  exact ⟨by first | rfl | decide, HB2.out⟩
end Go.Proofs.Ytfggkljgfadacaa.W
