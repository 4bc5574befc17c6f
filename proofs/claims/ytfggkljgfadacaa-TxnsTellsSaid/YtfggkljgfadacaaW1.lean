/- slices.Clone, slices.Clip and wire.low: bytes behind bytes, in new memory. -/
import Derived.Test.YtfggkljgfadacaaBase
import Derived.Test.YtfggkljgfadacaaProg
import Derived.KernelRfl
import Derived.LoopTactic
import Derived.Deep.LoopGhost
import Derived.Lib.SliceRun
set_option linter.unusedVariables false
set_option linter.unusedSimpArgs false
namespace Go.Proofs.Ytfggkljgfadacaa.W
open Go.RowKit Go.Proofs.Ytfggkljgfadacaa.B Go.Proofs

theorem info5 : (Try.prog.info? 5).map (fun i => (i.zero, i.size, i.bytes)) = some (some (.int .u8 0), 1, 1) := by kernel_rfl

set_option maxHeartbeats 1000000 in
set_option maxRecDepth 100000 in
theorem clone_any (v : Value) (l : List UInt8) (w : World) (hr : RdB w v l) (hl : l.length ≤ 140737488355328) :
    Calls Try.prog 61 #[v] w fun e w' => ∃ r, e = .returned r ∧ OwB w' w.heap.size 5 r l ∧ Below w.heap.size w w' := by
  obtain ⟨A, c, rfl, h1, h2, h3⟩ := hr.form
  have HR := As.mk hr
  clear hr
  rcases A with _ | ad
  · have hc := h3 rfl
    subst hc
    have hl0 : l = [] := List.eq_nil_of_length_eq_zero (by omega)
    subst hl0
    clear h1 h2 h3 hl
    have HN := fun (w : World) => Lib.run_eql_slice_nil (P := Try.prog) w 24 5 none 0 0 0 0 Try.underlying24
    go_enter Try.func61, Try.ntmps61
    go_wp2
    go_ret
    exact ⟨_, rfl, OwS.nil _ _ _ _, Below.refl _ _⟩
  · clear h3
    have H1 := As.mk h1
    have HL := As.mk hl
    clear h1 h2 hl
    have HN := fun (w : World) => Lib.run_eql_slice_nil (P := Try.prog) w 24 5 (some ad) l.length c 0 0 Try.underlying24
    go_enter Try.func61, Try.ntmps61
    go_wp2_with ((at_builtin; refine wpList_app w.heap.size rfl (.tmp 5) (.tmp 6) 24 5 (.int .u8 0) 1 1 rfl Try.underlying24 info5 rfl (by decide) (.slice (some ⟨w.heap.size, 0, none⟩) 0 0) (.slice (some ad) l.length c) rfl rfl 0 [] ?own l.length (l.map u8v) ?rd (u8v_one _) ?b1 ?b2 ?b3 ?_; (case own => exact OwB.empty w _ _ (Nat.le_refl _)); (case rd => exact HR.out.alloc _); (case b1 => have := HL.out; unfold maxLen; omega); (case b2 => have := HL.out; omega); (case b3 => simp); intro v' w' ho hg ht; have HO := As.mk ho; have HG := As.mk hg; clear ho hg ht))
    go_ret
    refine ⟨_, rfl, by simpa using HO.out, ?_⟩
    exact ((Below.refl _ _).alloc (Nat.le_refl _) _).grown HG.out (by simp) (by simp [Value.ownBlock])

/-- The k lowest bytes of a number, the lowest first. -/
def le (n : Nat) : Nat → List UInt8
  | 0 => []
  | k + 1 => le n k ++ [UInt8.ofNat (n / 2 ^ (8 * k))]
theorem le_length (n k : Nat) : (le n k).length = k := by
  induction k with
  | zero => rfl
  | succ k ih => simp [le, ih]

theorem clip_any (v : Value) (base : Nat) (l : List UInt8) (w : World) (hr : OwB w base 5 v l) :
    Calls Try.prog 89 #[v] w fun e w' => ∃ r, e = .returned r ∧ OwB w base 5 r l ∧ w = w' := by
  obtain ⟨A, c, rfl, h1, h2, h3⟩ := RdB.form hr.rd
  have HR := As.mk hr
  have H1 := As.mk h1
  clear hr h2 h3
  have h1' : (l.length : Int) ≤ c := by omega
  clear h1
  go_enter Try.func89, Try.ntmps89
  go_wp2
  go_ret
  exact ⟨_, rfl, HR.out.clip, rfl⟩

set_option maxHeartbeats 1000000 in
set_option maxRecDepth 100000 in
theorem low_any (v : Value) (l : List UInt8) (n wide : Nat) (w : World) (hr : RdB w v l) (hl : l.length + wide ≤ 140737488355328) (hn : n < 18446744073709551616) (hw : wide ≤ 8) :
    Calls Try.prog 60 #[v, .int .u64 (n : Int), .int .i64 (wide : Int)] w fun e w' => ∃ r, e = .returned r ∧ OwB w' w.heap.size 5 r (l ++ le n wide) ∧ Below w.heap.size w w' := by
  have HR := As.mk hr
  have HL := As.mk hl
  have hn' : (n : Int) ≤ 18446744073709551615 := by omega
  have hw' : (wide : Int) ≤ 8 := by omega
  clear hr hl hn hw
  go_enter Try.func60, Try.ntmps60
  go_wp2_with (first | (go_at_call 61; (with_reducible refine (clone_any _ l _ HR.out (by have := HL.out; omega)).mono ?_); rintro e w1 ⟨r1, rfl, ho1, hb1⟩; have HO1 := As.mk ho1; have HB1 := As.mk hb1; clear ho1 hb1) | (go_at_call 89; (with_reducible refine (clip_any _ w.heap.size l _ HO1.out).mono ?_); rintro e w2 ⟨r2, rfl, ho2, rfl⟩; have HO2 := As.mk ho2; clear ho2))
  go_loopw [7, 13] (fun v7 v13 wr => ∃ k : Nat, (k : Int) ≤ wide ∧ v13 = .int .i64 (k : Int) ∧ As (OwB wr w.heap.size 5 v7 (l ++ le n k)) ∧ As (Below w.heap.size w wr)) (fun _ i _ => wide - (intOf i).toNat)
  case atStart => exact ⟨0, by omega, rfl, by simpa [le] using HO2, HB1⟩
  case round =>
    obtain ⟨k, hk, rfl, HO, HB⟩ := hrel
    by_cases hlt : (k : Int) < wide
    · go_wp2_with ((at_builtin; go_loud (refine wpList_app w.heap.size rfl (.tmp 16) (.tmp 22) 24 5 (.int .u8 0) 1 1 rfl Try.underlying24 info5 rfl (by decide) u7 (.slice (some ⟨wr.heap.size, 0, none⟩) 1 1) rfl rfl (l ++ le n k).length ((l ++ le n k).map u8v) ?own 1 ([UInt8.ofNat (n / 2 ^ (8 * k))].map u8v) ?rd (u8v_one [UInt8.ofNat (n / 2 ^ (8 * k))]) ?b1 ?b2 ?b3 ?_; (case own => exact HO.out.alloc _); (case rd => exact RdB.one _ _ _ _ (by rw [u8_ofNat]; simp)); (case b1 => have := HL.out; rw [List.length_append, le_length]; unfold maxLen; omega); (case b2 => have := HL.out; rw [List.length_append, le_length]; omega); (case b3 => have := HB.out.size; simp; omega)); intro v' w' ho hg ht; have HO' := As.mk ho; have HG := As.mk hg; clear ho hg ht))
      go_roundw
      case rel =>
        refine ⟨k + 1, by omega, by go_num, ⟨?_⟩, ⟨?_⟩⟩
        · have := HO'.out
          unfold OwB
          rw [le, ← List.append_assoc, List.map_append, List.length_append]
          exact this
        · refine (HB.out.alloc HB.out.size _).grown HG.out (by have := HB.out.size; simp; omega) (fun b hb => (HO.out.lt b hb).1)
      case measure => simp [intOf]; omega
    · have hk' : k = wide := by omega
      subst hk'
      go_wp2
      go_ret
      exact ⟨_, rfl, HO.out, HB.out⟩

/-- The same, its numbers as whole numbers. -/
theorem low_int (v : Value) (l : List UInt8) (n wide : Nat) (x y : Int) (w : World) (hr : RdB w v l) (hl : l.length + wide ≤ 140737488355328) (hn : n < 18446744073709551616) (hw : wide ≤ 8) (hx : x = (n : Int)) (hy : y = (wide : Int)) :
    Calls Try.prog 60 #[v, .int .u64 x, .int .i64 y] w fun e w' => ∃ r, e = .returned r ∧ OwB w' w.heap.size 5 r (l ++ le n wide) ∧ Below w.heap.size w w' := by
  subst hx hy
  exact low_any v l n wide w hr hl hn hw
theorem small_any (v : Value) (l : List UInt8) (n : Nat) (x : Int) (w : World) (hr : RdB w v l) (hl : l.length + 4 ≤ 140737488355328) (hn : n < 4294967296) (hx : x = (n : Int)) :
    Calls Try.prog 17 #[v, .int .u32 x] w fun e w' => ∃ r, e = .returned r ∧ OwB w' w.heap.size 5 r (l ++ le n 4) ∧ Below w.heap.size w w' := by
  have HR := As.mk hr
  have HL := As.mk hl
  have h0 : 0 ≤ x := by omega
  have h1 : x ≤ 4294967295 := by omega
  have HX := As.mk hx
  have HN := As.mk hn
  clear hr hl hx hn
  go_enter Try.func17, Try.ntmps17
  go_wp2_with ((go_at_call 60; (with_reducible refine (low_int _ l n 4 _ _ _ HR.out HL.out (by have := HN.out; omega) (by omega) HX.out (by omega)).mono ?_); rintro e w1 ⟨r, rfl, ho, hb⟩; have HO := As.mk ho; have HB := As.mk hb; clear ho hb))
  go_ret
  exact ⟨_, rfl, HO.out, HB.out⟩
theorem big_any (v : Value) (l : List UInt8) (n : Nat) (x : Int) (w : World) (hr : RdB w v l) (hl : l.length + 8 ≤ 140737488355328) (hn : n < 18446744073709551616) (hx : x = (n : Int)) :
    Calls Try.prog 16 #[v, .int .u64 x] w fun e w' => ∃ r, e = .returned r ∧ OwB w' w.heap.size 5 r (l ++ le n 8) ∧ Below w.heap.size w w' := by
  have HR := As.mk hr
  have HL := As.mk hl
  have HX := As.mk hx
  have HN := As.mk hn
  clear hr hl hx hn
  go_enter Try.func16, Try.ntmps16
  go_wp2_with ((go_at_call 60; (with_reducible refine (low_int _ l n 8 _ _ _ HR.out HL.out HN.out (by omega) HX.out (by omega)).mono ?_); rintro e w1 ⟨r, rfl, ho, hb⟩; have HO := As.mk ho; have HB := As.mk hb; clear ho hb))
  go_ret
  exact ⟨_, rfl, HO.out, HB.out⟩
/-- A count's bytes. -/
def cnt (n : Nat) : List UInt8 := if n < 253 then le n 1 else if n < 65536 then le 253 1 ++ le n 2 else le 254 1 ++ le n 4
theorem cnt_length (n : Nat) : (cnt n).length ≤ 5 := by
  unfold cnt; split
  · simp [le_length]
  · split <;> simp [le_length]
def clampU (x : Int) : Nat := (min (max x 0) 4294967295).toNat
set_option maxHeartbeats 1000000 in
theorem count_neg (v : Value) (l : List UInt8) (x : Int) (w : World) (hr : RdB w v l) (hl : l.length + 5 ≤ 140737488355328) (h0 : x < 0) :
    Calls Try.prog 15 #[v, .int .i64 x] w fun e w' => ∃ r, e = .returned r ∧ OwB w' w.heap.size 5 r (l ++ cnt (clampU x)) ∧ Below w.heap.size w w' := by
  have HR := As.mk hr
  have HL := As.mk hl
  have HX := As.mk (show (0 : Int) = (clampU x : Int) by unfold clampU; omega)
  have HN := As.mk (show clampU x ≤ 4294967295 by unfold clampU; omega)
  have HC : As (cnt (clampU x) = le (clampU x) 1) := ⟨by have := HX.out; unfold cnt; rw [if_pos (by omega)]⟩
  clear hr hl
  go_enter Try.func15, Try.ntmps15
  go_wp2_with ((go_at_call 60; (with_reducible refine (low_int _ l (clampU x) 1 _ _ _ HR.out (by have := HL.out; omega) (by have := HN.out; omega) (by omega) HX.out (by omega)).mono ?_); rintro e w1 ⟨r, rfl, ho, hb⟩; have HO := As.mk ho; have HB := As.mk hb; clear ho hb))
  go_ret
  refine ⟨_, rfl, ?_, HB.out⟩
  rw [HC.out]
  exact HO.out
set_option maxHeartbeats 1000000 in
theorem count_one (v : Value) (l : List UInt8) (x : Int) (w : World) (hr : RdB w v l) (hl : l.length + 5 ≤ 140737488355328) (h0 : 0 ≤ x) (h1 : x < 253) :
    Calls Try.prog 15 #[v, .int .i64 x] w fun e w' => ∃ r, e = .returned r ∧ OwB w' w.heap.size 5 r (l ++ cnt (clampU x)) ∧ Below w.heap.size w w' := by
  have HR := As.mk hr
  have HL := As.mk hl
  have HX := As.mk (show (x : Int) = (clampU x : Int) by unfold clampU; omega)
  have HN := As.mk (show clampU x ≤ 4294967295 by unfold clampU; omega)
  have HC : As (cnt (clampU x) = le (clampU x) 1) := ⟨by have := HX.out; unfold cnt; rw [if_pos (by omega)]⟩
  clear hr hl
  go_enter Try.func15, Try.ntmps15
  go_wp2_with ((go_at_call 60; (with_reducible refine (low_int _ l (clampU x) 1 _ _ _ HR.out (by have := HL.out; omega) (by have := HN.out; omega) (by omega) HX.out (by omega)).mono ?_); rintro e w1 ⟨r, rfl, ho, hb⟩; have HO := As.mk ho; have HB := As.mk hb; clear ho hb))
  go_ret
  refine ⟨_, rfl, ?_, HB.out⟩
  rw [HC.out]
  exact HO.out
set_option maxHeartbeats 1000000 in
theorem count_two (v : Value) (l : List UInt8) (x : Int) (w : World) (hr : RdB w v l) (hl : l.length + 5 ≤ 140737488355328) (h0 : 253 ≤ x) (h1 : x < 65536) :
    Calls Try.prog 15 #[v, .int .i64 x] w fun e w' => ∃ r, e = .returned r ∧ OwB w' w.heap.size 5 r (l ++ cnt (clampU x)) ∧ Below w.heap.size w w' := by
  have HR := As.mk hr
  have HL := As.mk hl
  have HX := As.mk (show (x : Int) = (clampU x : Int) by unfold clampU; omega)
  have HN := As.mk (show clampU x ≤ 4294967295 by unfold clampU; omega)
  have HC : As (cnt (clampU x) = le 253 1 ++ le (clampU x) 2) := ⟨by have := HX.out; unfold cnt; rw [if_neg (by omega), if_pos (by omega)]⟩
  clear hr hl
  go_enter Try.func15, Try.ntmps15
  go_wp2_with (first | (go_at_call 60; (with_reducible refine (low_int _ (l ++ le 253 1) (clampU x) 2 _ _ _ HO1.out.rd (by have := HL.out; rw [List.length_append, le_length]; omega) (by have := HN.out; omega) (by omega) HX.out (by omega)).mono ?_); rintro e w2 ⟨r, rfl, ho, hb⟩; have HO := As.mk (ho.mono HB1.out.size); have HB := As.mk (HB1.out.trans (hb.mono HB1.out.size)); clear ho hb) | (go_at_call 60; (with_reducible refine (low_int _ l 253 1 _ _ _ HR.out (by have := HL.out; omega) (by omega) (by omega) (by omega) (by omega)).mono ?_); rintro e w1 ⟨r1, rfl, ho, hb⟩; have HO1 := As.mk ho; have HB1 := As.mk hb; clear ho hb))
  go_ret
  refine ⟨_, rfl, ?_, HB.out⟩
  rw [HC.out]
  exact by rw [← List.append_assoc]; exact HO.out
set_option maxHeartbeats 1000000 in
theorem count_four (v : Value) (l : List UInt8) (x : Int) (w : World) (hr : RdB w v l) (hl : l.length + 5 ≤ 140737488355328) (h0 : 65536 ≤ x) (h1 : x ≤ 4294967295) :
    Calls Try.prog 15 #[v, .int .i64 x] w fun e w' => ∃ r, e = .returned r ∧ OwB w' w.heap.size 5 r (l ++ cnt (clampU x)) ∧ Below w.heap.size w w' := by
  have HR := As.mk hr
  have HL := As.mk hl
  have HX := As.mk (show (x : Int) = (clampU x : Int) by unfold clampU; omega)
  have HN := As.mk (show clampU x ≤ 4294967295 by unfold clampU; omega)
  have HC : As (cnt (clampU x) = le 254 1 ++ le (clampU x) 4) := ⟨by have := HX.out; unfold cnt; rw [if_neg (by omega), if_neg (by omega)]⟩
  clear hr hl
  go_enter Try.func15, Try.ntmps15
  go_wp2_with (first | (go_at_call 60; (with_reducible refine (low_int _ (l ++ le 254 1) (clampU x) 4 _ _ _ HO1.out.rd (by have := HL.out; rw [List.length_append, le_length]; omega) (by have := HN.out; omega) (by omega) HX.out (by omega)).mono ?_); rintro e w2 ⟨r, rfl, ho, hb⟩; have HO := As.mk (ho.mono HB1.out.size); have HB := As.mk (HB1.out.trans (hb.mono HB1.out.size)); clear ho hb) | (go_at_call 60; (with_reducible refine (low_int _ l 254 1 _ _ _ HR.out (by have := HL.out; omega) (by omega) (by omega) (by omega) (by omega)).mono ?_); rintro e w1 ⟨r1, rfl, ho, hb⟩; have HO1 := As.mk ho; have HB1 := As.mk hb; clear ho hb))
  go_ret
  refine ⟨_, rfl, ?_, HB.out⟩
  rw [HC.out]
  exact by rw [← List.append_assoc]; exact HO.out
set_option maxHeartbeats 1000000 in
theorem count_over (v : Value) (l : List UInt8) (x : Int) (w : World) (hr : RdB w v l) (hl : l.length + 5 ≤ 140737488355328) (h0 : 4294967295 < x) :
    Calls Try.prog 15 #[v, .int .i64 x] w fun e w' => ∃ r, e = .returned r ∧ OwB w' w.heap.size 5 r (l ++ cnt (clampU x)) ∧ Below w.heap.size w w' := by
  have HR := As.mk hr
  have HL := As.mk hl
  have HX := As.mk (show (4294967295 : Int) = (clampU x : Int) by unfold clampU; omega)
  have HN := As.mk (show clampU x ≤ 4294967295 by unfold clampU; omega)
  have HC : As (cnt (clampU x) = le 254 1 ++ le (clampU x) 4) := ⟨by have := HX.out; unfold cnt; rw [if_neg (by omega), if_neg (by omega)]⟩
  clear hr hl
  go_enter Try.func15, Try.ntmps15
  go_wp2_with (first | (go_at_call 60; (with_reducible refine (low_int _ (l ++ le 254 1) (clampU x) 4 _ _ _ HO1.out.rd (by have := HL.out; rw [List.length_append, le_length]; omega) (by have := HN.out; omega) (by omega) HX.out (by omega)).mono ?_); rintro e w2 ⟨r, rfl, ho, hb⟩; have HO := As.mk (ho.mono HB1.out.size); have HB := As.mk (HB1.out.trans (hb.mono HB1.out.size)); clear ho hb) | (go_at_call 60; (with_reducible refine (low_int _ l 254 1 _ _ _ HR.out (by have := HL.out; omega) (by omega) (by omega) (by omega) (by omega)).mono ?_); rintro e w1 ⟨r1, rfl, ho, hb⟩; have HO1 := As.mk ho; have HB1 := As.mk hb; clear ho hb))
  go_ret
  refine ⟨_, rfl, ?_, HB.out⟩
  rw [HC.out]
  exact by rw [← List.append_assoc]; exact HO.out
theorem count_any (v : Value) (l : List UInt8) (x : Int) (w : World) (hr : RdB w v l) (hl : l.length + 5 ≤ 140737488355328) :
    Calls Try.prog 15 #[v, .int .i64 x] w fun e w' => ∃ r, e = .returned r ∧ OwB w' w.heap.size 5 r (l ++ cnt (clampU x)) ∧ Below w.heap.size w w' := by
  by_cases c1 : x < 0
  · exact count_neg v l x w hr hl c1
  by_cases c2 : x < 253
  · exact count_one v l x w hr hl (by omega) c2
  by_cases c3 : x < 65536
  · exact count_two v l x w hr hl (by omega) c3
  by_cases c4 : x ≤ 4294967295
  · exact count_four v l x w hr hl (by omega) c4
  · exact count_over v l x w hr hl (by omega)
end Go.Proofs.Ytfggkljgfadacaa.W
