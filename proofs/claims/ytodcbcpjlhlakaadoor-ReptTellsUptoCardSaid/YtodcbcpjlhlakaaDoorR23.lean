/- What is told: what the document fixes. -/
import Derived.Test.YtodcbcpjlhlakaaDoorR19
set_option linter.unusedVariables false
set_option linter.unusedSimpArgs false
namespace Go.Proofs.YtodcbcpjlhlakaaDoor.W
open Go.RowKit Go.Proofs.YtodcbcpjlhlakaaDoor.B Go.Proofs

theorem parse_yes (t : List UInt8) {k p n : Int} {g : Bool} {bs : List UInt8} {ls : List (List UInt8)} (h : parseL t = some ⟨k, p, n, g, bs, ls⟩) (ht : t.length ≤ 3000000) (w : World) (he : Env w) :
    Calls Tryd.prog 12 #[.string ⟨t.toArray⟩] w fun e w' => ∃ Ab cb Al cl, e = .returned (.tuple #[.agg #[.int .i64 k, .int .i64 p, .int .i64 n, .bool g, .slice Ab bs.length cb, .slice Al ls.length cl], .bool true]) ∧ RdB w' (.slice Ab bs.length cb) bs ∧ RdW w' (.slice Al ls.length cl) ls ∧ Below w.heap.size w w' := by
  refine (parse_any t ht w he).mono ?_
  rintro e w' ⟨bv, lv, rfl, ⟨h1, h2⟩, hb⟩
  rw [h] at h1 h2
  obtain ⟨Ab, cb, rfl, -⟩ := RdB.form h1
  obtain ⟨Al, cl, rfl, -⟩ := h2.form
  refine ⟨Ab, cb, Al, cl, ?_, h1, h2, hb⟩
  rw [h]
  rfl
theorem parse_no (t : List UInt8) (h : parseL t = none) (ht : t.length ≤ 3000000) (w : World) (he : Env w) :
    Calls Tryd.prog 12 #[.string ⟨t.toArray⟩] w fun e w' => ∃ Ab cb Al cl, e = .returned (.tuple #[.agg #[.int .i64 0, .int .i64 0, .int .i64 0, .bool false, .slice Ab 0 cb, .slice Al 0 cl], .bool false]) ∧ RdB w' (.slice Ab 0 cb) [] ∧ RdW w' (.slice Al 0 cl) [] ∧ Below w.heap.size w w' := by
  refine (parse_any t ht w he).mono ?_
  rintro e w' ⟨bv, lv, rfl, ⟨h1, h2⟩, hb⟩
  rw [h] at h1 h2
  obtain ⟨Ab, cb, rfl, -⟩ := RdB.form h1
  obtain ⟨Al, cl, rfl, -⟩ := h2.form
  refine ⟨Ab, cb, Al, cl, ?_, h1, h2, hb⟩
  rw [h]
  rfl
theorem itoa_3 : Lib.itoa 3 = [51] := by simp [Lib.itoa, Lib.decDigits]
theorem itoa_2 : Lib.itoa 2 = [50] := by simp [Lib.itoa, Lib.decDigits]
theorem itoa_5 : Lib.itoa 5 = [53] := by simp [Lib.itoa, Lib.decDigits]
theorem num_3 : numP [51] = (3, true) := by have := numP_itoa 3 (by decide) (by decide); rwa [itoa_3] at this
theorem num_05 : numP [48, 53] = (0, false) := by
  have h : Lib.atoiAll [48, 53] = .ok 5 := by decide
  unfold numP
  rw [h]
  simp only
  rw [if_neg (by rw [itoa_5]; decide)]
theorem text_1 : stepL 1 3 0 true [171, 1] [] = [116, 120, 32, 51, 32, 121, 32, 97, 98, 48, 49] := by
  unfold stepL
  rw [if_pos rfl, itoa_3]
  decide
theorem parse_1 : parseL [116, 120, 32, 51, 32, 121, 32, 97, 98, 48, 49] = some ⟨1, 3, 0, true, [171, 1], []⟩ := by
  have h := parse_text ⟨1, 3, 0, true, [171, 1], []⟩ (by decide) (by decide) (by decide)
  have e : textL ⟨1, 3, 0, true, [171, 1], []⟩ = [116, 120, 32, 51, 32, 121, 32, 97, 98, 48, 49] := text_1
  rw [e] at h
  rw [h]
  rfl
theorem parse_2 : parseL [116, 120, 32, 51, 32, 121, 32, 65, 66, 48, 49] = none := by
  unfold parseL
  rw [show cutW 32 [116, 120, 32, 51, 32, 121, 32, 65, 66, 48, 49] = [[116, 120], [51], [121], [65, 66, 48, 49]] by decide]
  simp only
  rw [if_neg (by decide), show kindL [116, 120] = 1 by decide]
  rw [show restP 1 [[51], [121], [65, 66, 48, 49]] = some ⟨1, 3, 0, true, [0, 1], []⟩ by simp [restP, numd, two, num_3]; decide]
  simp only
  rw [if_neg]
  show ¬ stepL 1 3 0 true [0, 1] [] = _
  unfold stepL
  rw [if_pos rfl, itoa_3]
  decide
theorem parse_3 : parseL [116, 105, 99, 107, 32, 48, 53] = none := by
  unfold parseL
  rw [show cutW 32 [116, 105, 99, 107, 32, 48, 53] = [[116, 105, 99, 107], [48, 53]] by decide]
  simp only
  rw [if_neg (by decide), show kindL [116, 105, 99, 107] = 6 by decide]
  rw [show restP 6 [[48, 53]] = none by simp [restP, numd, num_05]]
theorem say_2 : sayL 10 2 0 (List.replicate 32 0) [] 0 = [119, 97, 110, 116, 32, 50, 32, 48, 48, 48, 48, 48, 48, 48, 48] := by
  unfold sayL
  rw [if_neg (by decide), if_neg (by decide), if_neg (by decide), if_neg (by decide), if_neg (by decide), if_neg (by decide), if_neg (by decide), if_neg (by decide), if_neg (by decide), if_pos rfl, itoa_2]
  decide
theorem RdN.nil (w : World) : RdN w (.slice none 0 0) [] := ⟨none, 0, rfl, Nat.le_refl _, Nat.zero_le _, fun _ => rfl, fun _ h => by cases h⟩
def z32 : List Value := List.replicate 32 (.int .u8 0)
theorem say_at10 (w : World) (he : Env w) : Calls Tryd.prog 7 #[.agg #[.int .i64 10, .int .i64 2, .int .i64 0, .int .u8 0, .int .u8 0, .int .u8 0, .int .u8 0, .int .u8 0, .int .u8 0, .int .u8 0, .int .u8 0, .int .u8 0, .int .u8 0, .int .u8 0, .int .u8 0, .int .u8 0, .int .u8 0, .int .u8 0, .int .u8 0, .int .u8 0, .int .u8 0, .int .u8 0, .int .u8 0, .int .u8 0, .int .u8 0, .int .u8 0, .int .u8 0, .int .u8 0, .int .u8 0, .int .u8 0, .int .u8 0, .int .u8 0, .int .u8 0, .int .u8 0, .int .u8 0, .slice none 0 0, .int .u64 0]] w fun e w' => e = .returned (.string ⟨#[119, 97, 110, 116, 32, 50, 32, 48, 48, 48, 48, 48, 48, 48, 48]⟩) ∧ Below w.heap.size w w' := by
  have h := say_any 10 2 0 (List.replicate 32 0) (.slice none 0 0) [] 0 w (by decide) (RdN.nil w) (by decide) (by decide) (by decide) (by decide) (by decide) he
  rw [say_2] at h
  exact h
theorem say_at0 (w : World) (he : Env w) : Calls Tryd.prog 7 #[.agg #[.int .i64 0, .int .i64 0, .int .i64 0, .int .u8 0, .int .u8 0, .int .u8 0, .int .u8 0, .int .u8 0, .int .u8 0, .int .u8 0, .int .u8 0, .int .u8 0, .int .u8 0, .int .u8 0, .int .u8 0, .int .u8 0, .int .u8 0, .int .u8 0, .int .u8 0, .int .u8 0, .int .u8 0, .int .u8 0, .int .u8 0, .int .u8 0, .int .u8 0, .int .u8 0, .int .u8 0, .int .u8 0, .int .u8 0, .int .u8 0, .int .u8 0, .int .u8 0, .int .u8 0, .int .u8 0, .int .u8 0, .slice none 0 0, .int .u64 0]] w fun e w' => e = .returned (.string ⟨#[]⟩) ∧ Below w.heap.size w w' := by
  have h := say_any 0 0 0 (List.replicate 32 0) (.slice none 0 0) [] 0 w (by decide) (RdN.nil w) (by decide) (by decide) (by decide) (by decide) (by decide) he
  exact h
theorem step_at0 (w : World) (he : Env w) : Calls Tryd.prog 9 #[.agg #[.int .i64 0, .int .i64 0, .int .i64 0, .bool false, .slice none 0 0, .slice none 0 0]] w fun e w' => e = .returned (.string ⟨#[]⟩) ∧ Below w.heap.size w w' := by
  have h := step_any 0 0 0 false (.slice none 0 0) (.slice none 0 0) [] [] w (RdB.nil w) (RdW.nil w) (by decide) (by decide) (fun x hx => by cases hx) (by decide) (by decide) (by decide) he
  exact h
theorem parse_at1 (w : World) (he : Env w) : Calls Tryd.prog 12 #[.string ⟨#[116, 120, 32, 51, 32, 121, 32, 97, 98, 48, 49]⟩] w fun e w' => ∃ Ab cb Al cl, e = .returned (.tuple #[.agg #[.int .i64 1, .int .i64 3, .int .i64 0, .bool true, .slice Ab 2 cb, .slice Al 0 cl], .bool true]) ∧ RdB w' (.slice Ab 2 cb) [171, 1] ∧ Below w.heap.size w w' :=
  (parse_yes [116, 120, 32, 51, 32, 121, 32, 97, 98, 48, 49] parse_1 (by decide) w he).mono (fun e w' ⟨Ab, cb, Al, cl, h1, h2, h3, h4⟩ => ⟨Ab, cb, Al, cl, h1, h2, h4⟩)
theorem parse_at2 (w : World) (he : Env w) : Calls Tryd.prog 12 #[.string ⟨#[116, 120, 32, 51, 32, 121, 32, 65, 66, 48, 49]⟩] w fun e w' => ∃ Ab cb Al cl, e = .returned (.tuple #[.agg #[.int .i64 0, .int .i64 0, .int .i64 0, .bool false, .slice Ab 0 cb, .slice Al 0 cl], .bool false]) ∧ Below w.heap.size w w' :=
  (parse_no [116, 120, 32, 51, 32, 121, 32, 65, 66, 48, 49] parse_2 (by decide) w he).mono (fun e w' ⟨Ab, cb, Al, cl, h1, h2, h3, h4⟩ => ⟨Ab, cb, Al, cl, h1, h4⟩)
theorem parse_at3 (w : World) (he : Env w) : Calls Tryd.prog 12 #[.string ⟨#[116, 105, 99, 107, 32, 48, 53]⟩] w fun e w' => ∃ Ab cb Al cl, e = .returned (.tuple #[.agg #[.int .i64 0, .int .i64 0, .int .i64 0, .bool false, .slice Ab 0 cb, .slice Al 0 cl], .bool false]) ∧ Below w.heap.size w w' :=
  (parse_no [116, 105, 99, 107, 32, 48, 53] parse_3 (by decide) w he).mono (fun e w' ⟨Ab, cb, Al, cl, h1, h2, h3, h4⟩ => ⟨Ab, cb, Al, cl, h1, h4⟩)
theorem step_at1 (g : Nat) (w : World) (he : Env w) (hb : RdB w (.slice (some ⟨g, 0, none⟩) 2 2) [171, 1]) : Calls Tryd.prog 9 #[.agg #[.int .i64 1, .int .i64 3, .int .i64 0, .bool true, .slice (some ⟨g, 0, none⟩) 2 2, .slice none 0 0]] w fun e w' => e = .returned (.string ⟨#[116, 120, 32, 51, 32, 121, 32, 97, 98, 48, 49]⟩) ∧ Below w.heap.size w w' := by
  have h := step_any 1 3 0 true _ (.slice none 0 0) [171, 1] [] w hb (RdW.nil w) (by decide) (by decide) (fun x hx => by cases hx) (by decide) (by decide) (by decide) he
  rw [text_1] at h
  exact h
set_option maxHeartbeats 4000000 in
set_option maxRecDepth 100000 in
theorem awake_any (w : World) (he : Env w) : Calls Tryd.prog 8 #[] w fun e w' => e = .returned (.bool true) ∧ Below w.heap.size w w' := by
  have HEN := As.mk he
  clear he
  go_enter Tryd.func8, Tryd.ntmps8
  go_upto_region 2 with fail
  have HB0 : As (Below w.heap.size w ((w.alloc (.cells #[.int .u8 171, .int .u8 1] 5)).alloc (.cells #[.int .i64 1, .int .i64 3, .int .i64 0, .bool true, .slice (some ⟨w.heap.size, 0, none⟩) 2 2, .slice none 0 0] 35))) := ⟨(below_al w _).alloc (by simp) _⟩
  have HX0 : As (Box ((w.alloc (.cells #[.int .u8 171, .int .u8 1] 5)).alloc (.cells #[.int .i64 1, .int .i64 3, .int .i64 0, .bool true, .slice (some ⟨w.heap.size, 0, none⟩) 2 2, .slice none 0 0] 35)) (w.heap.size + 1) #[.int .i64 1, .int .i64 3, .int .i64 0, .bool true, .slice (some ⟨w.heap.size, 0, none⟩) 2 2, .slice none 0 0] 35) := ⟨by have := Box.new (w.alloc (.cells #[.int .u8 171, .int .u8 1] 5)) #[.int .i64 1, .int .i64 3, .int .i64 0, .bool true, .slice (some ⟨w.heap.size, 0, none⟩) 2 2, .slice none 0 0] 35; simpa using this⟩
  have HR0 : As (RdB ((w.alloc (.cells #[.int .u8 171, .int .u8 1] 5)).alloc (.cells #[.int .i64 1, .int .i64 3, .int .i64 0, .bool true, .slice (some ⟨w.heap.size, 0, none⟩) 2 2, .slice none 0 0] 35)) (.slice (some ⟨w.heap.size, 0, none⟩) 2 2) [171, 1]) := ⟨by have h := (OwB.two w w.heap.size (Nat.le_refl _) 171 1).rd; exact RdS.below h (below_al _ _)⟩
  generalize ((w.alloc (.cells #[.int .u8 171, .int .u8 1] 5)).alloc (.cells #[.int .i64 1, .int .i64 3, .int .i64 0, .bool true, .slice (some ⟨w.heap.size, 0, none⟩) 2 2, .slice none 0 0] 35)) = W0 at HB0 HX0 HR0 ⊢
  have HE0 := As.mk (HEN.out.below HB0.out)
  go_upto_region 3 with (go_at_call 12; (with_reducible refine (parse_at1 _ HE0.out).mono ?_); rintro e w2 ⟨Ab, cb, Al, cl, rfl, h2, hb⟩; have HR2 := As.mk h2; have HB2 := As.mk hb; clear h2 hb)
  have HB3 : As (Below W0.heap.size W0 (w2.alloc (.cells #[.int .i64 1, .int .i64 3, .int .i64 0, .bool true, .slice Ab 2 cb, .slice Al 0 cl] 35))) := ⟨HB2.out.alloc HB2.out.size _⟩
  have HX3 : As (Box (w2.alloc (.cells #[.int .i64 1, .int .i64 3, .int .i64 0, .bool true, .slice Ab 2 cb, .slice Al 0 cl] 35)) w2.heap.size #[.int .i64 1, .int .i64 3, .int .i64 0, .bool true, .slice Ab 2 cb, .slice Al 0 cl] 35) := ⟨Box.new _ _ _⟩
  have HR3 : As (RdB (w2.alloc (.cells #[.int .i64 1, .int .i64 3, .int .i64 0, .bool true, .slice Ab 2 cb, .slice Al 0 cl] 35)) (.slice Ab 2 cb) [171, 1]) := ⟨RdS.below HR2.out (below_al _ _)⟩
  generalize (w2.alloc (.cells #[.int .i64 1, .int .i64 3, .int .i64 0, .bool true, .slice Ab 2 cb, .slice Al 0 cl] 35)) = W3 at HB3 HX3 HR3 ⊢
  have HE3 := As.mk (HE0.out.below HB3.out)
  go_upto_region 4 with (go_at_call 12; (with_reducible refine (parse_at2 _ HE3.out).mono ?_); rintro e v4 ⟨A4, c4, B4, d4, rfl, hb⟩; have HV4 := As.mk hb; clear hb)
  have HB4 : As (Below W3.heap.size W3 (v4.alloc (.cells #[.int .i64 0, .int .i64 0, .int .i64 0, .bool false, .slice A4 0 c4, .slice B4 0 d4] 35))) := ⟨HV4.out.alloc HV4.out.size _⟩
  generalize (v4.alloc (.cells #[.int .i64 0, .int .i64 0, .int .i64 0, .bool false, .slice A4 0 c4, .slice B4 0 d4] 35)) = W4 at HB4 ⊢
  have HE4 := As.mk (HE3.out.below HB4.out)
  go_upto_region 5 with (go_at_call 12; (with_reducible refine (parse_at3 _ HE4.out).mono ?_); rintro e v5 ⟨A5, c5, B5, d5, rfl, hb⟩; have HV5 := As.mk hb; clear hb)
  have HB5 : As (Below W4.heap.size W4 (v5.alloc (.cells #[.int .i64 0, .int .i64 0, .int .i64 0, .bool false, .slice A5 0 c5, .slice B5 0 d5] 35))) := ⟨HV5.out.alloc HV5.out.size _⟩
  generalize (v5.alloc (.cells #[.int .i64 0, .int .i64 0, .int .i64 0, .bool false, .slice A5 0 c5, .slice B5 0 d5] 35)) = W5 at HB5 ⊢
  have HE5 := As.mk (HE4.out.below HB5.out)
  have HBA : As (Below W3.heap.size W3 W5) := ⟨HB4.out.trans (HB5.out.mono HB4.out.size)⟩
  have HX5 := As.mk ((HX0.out.below HB3.out).below HBA.out)
  have HR5 := As.mk (RdS.below (RdS.below HR0.out HB3.out) HBA.out)
  have HY5 := As.mk (HX3.out.below HBA.out)
  have HQ5 := As.mk (RdS.below HR3.out HBA.out)
  have HB9 : As (Below w.heap.size w W5) := ⟨HB0.out.trans ((HB3.out.mono HB0.out.size).trans (HBA.out.mono (Nat.le_trans HB0.out.size HB3.out.size)))⟩
  have x0 := HX5.out.cell 0 _ rfl
  have x1 := HX5.out.cell 1 _ rfl
  have x2 := HX5.out.cell 2 _ rfl
  have x3 := HX5.out.cell 3 _ rfl
  have x4 := HX5.out.cell 4 _ rfl
  have x5 := HX5.out.cell 5 _ rfl
  go_wp2_with (first | (go_at_call 9; (with_reducible refine (step_at1 _ _ HE5.out HR5.out).mono ?_); rintro e w6 ⟨rfl, hb⟩; have HE6 := As.mk (HE5.out.below hb); have HB6 := As.mk (HB9.out.trans (hb.mono HB9.out.size)); have HY6 := As.mk (HY5.out.below hb); have kv := run_str (P := Tryd.prog) 29 9 5 Tryd.underlying29 Tryd.underlying5 Tryd.underlying9 (RdS.below HQ5.out hb); clear hb x0 x1 x2 x3 x4 x5; have y0 := HY6.out.cell 0 _ rfl; have y1 := HY6.out.cell 1 _ rfl; have y2 := HY6.out.cell 2 _ rfl; have y3 := HY6.out.cell 3 _ rfl; have y4 := HY6.out.cell 4 _ rfl; have y5 := HY6.out.cell 5 _ rfl) | (go_at_call 7; (with_reducible refine (say_at10 _ HE6.out).mono ?_); rintro e w7 ⟨rfl, hb⟩; have HE7 := As.mk (HE6.out.below hb); have HB7 := As.mk (HB6.out.trans (hb.mono HB6.out.size)); clear hb) | (go_at_call 7; (with_reducible refine (say_at0 _ HE7.out).mono ?_); rintro e w8 ⟨rfl, hb⟩; have HE8 := As.mk (HE7.out.below hb); have HB8 := As.mk (HB7.out.trans (hb.mono HB7.out.size)); clear hb) | (go_at_call 9; (with_reducible refine (step_at0 _ HE8.out).mono ?_); rintro e w9 ⟨rfl, hb⟩; have HBZ := As.mk (HB8.out.trans (hb.mono HB8.out.size)); clear hb))
  go_ret
  exact ⟨rfl, HBZ.out⟩
end Go.Proofs.YtodcbcpjlhlakaaDoor.W
