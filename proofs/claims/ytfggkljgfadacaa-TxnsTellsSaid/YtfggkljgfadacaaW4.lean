/- The document's numbers, counts and reader. -/
import Derived.Test.YtfggkljgfadacaaW3
set_option linter.unusedVariables false
set_option linter.unusedSimpArgs false
namespace Go.Proofs.Ytfggkljgfadacaa.W
open Go.RowKit Go.Proofs.Ytfggkljgfadacaa.B Go.Proofs

theorem le4 (n : Nat) : le n 4 = [UInt8.ofNat n, UInt8.ofNat (n / 256), UInt8.ofNat (n / 65536), UInt8.ofNat (n / 16777216)] := by
  simp [le]
theorem lit_bytes (w : World) (e : TypeId) (bs : List UInt8) (vs : Array Value) (h : vs = (bs.map u8v).toArray) (n : Nat) (hn : n = bs.length) (hl : n ≤ maxLen) : RdB (w.alloc (.cells vs e)) (.slice (some ⟨w.heap.size, 0, none⟩) n n) bs := by
  subst h hn
  have := (OwS.lit w w.heap.size e 1 bs.length (bs.map u8v).toArray (Nat.le_refl _) hl (by simp)).rd
  simpa using this
theorem lit_rds (w : World) (e : TypeId) (bs : List UInt8) (vs : Array Value) (h : vs = (bs.map u8v).toArray) (n : Nat) (hn : n = bs.length) (hl : n ≤ maxLen) : RdS (w.alloc (.cells vs e)) 1 (.slice (some ⟨w.heap.size, 0, none⟩) n n) n (bs.map u8v) := by
  have := lit_bytes w e bs vs h n hn hl
  subst hn
  exact this
theorem lit4le (w : World) (n : Nat) (x : Int) (hx : x = (n : Int)) (hn : n < 4294967296) : RdS (w.alloc (.cells #[.int .u8 (x % 256), .int .u8 (x / 256 % 256), .int .u8 (x / 65536 % 256), .int .u8 (x / 16777216 % 256)] 5)) 1 (.slice (some ⟨w.heap.size, 0, none⟩) 4 4) 4 ((le n 4).map u8v) := by
  refine lit_bytes w 5 (le n 4) _ ?_ 4 (by rw [le_length]) (by decide)
  rw [le4]
  simp only [List.map_cons, List.map_nil, u8v, u8_ofNat, hx]
  rfl
set_option maxRecDepth 100000 in
set_option maxHeartbeats 1000000 in
theorem small_ref (v : Value) (l : List UInt8) (n : Nat) (x : Int) (w : World) (hr : RdB w v l) (hl : l.length + 4 ≤ 140737488355328) (hn : n < 4294967296) (hx : x = (n : Int)) :
    Calls Try.prog 26 #[v, .int .u32 x] w fun e w' => ∃ r, e = .returned r ∧ OwB w' w.heap.size 5 r (l ++ le n 4) ∧ Below w.heap.size w w' := by
  obtain ⟨A, c, rfl, h1, h2, h3⟩ := hr.form
  have HR := As.mk hr
  have HL := As.mk hl
  have h0 : 0 ≤ x := by omega
  have h1 : x ≤ 4294967295 := by omega
  have HX := As.mk hx
  have HN := As.mk hn
  clear hr hl hx hn h1 h2 h3
  go_enter Try.func26, Try.ntmps26
  have HB : As (Below w.heap.size w w) := ⟨Below.refl _ _⟩
  go_wp2_with (first | (at_builtin; refine wpList_app (w.heap.size) rfl (.tmp 5) (.tmp 6) 24 5 (.int .u8 0) 1 1 rfl Try.underlying24 info5 rfl (by decide) (.slice (some ⟨w.heap.size, 0, none⟩) 0 0) (.slice A l.length c) rfl rfl (([] : List UInt8)).length ((([] : List UInt8)).map u8v) ?own (l.length) ((l).map u8v) ?rd (u8v_one _) ?b1 ?b2 ?b3 ?_; (case own => exact (OwB.empty w _ _ (Nat.le_refl _))); (case rd => exact (HR.out.alloc _)); (case b1 => have := HL.out; (try simp only [List.length_nil]); unfold maxLen; omega); (case b2 => have := HL.out; (try simp only [List.length_nil]); omega); (case b3 => have := HB.out.size; first | omega | (simp; done) | (simp; omega)); intro v1 v1w ho hg ht; have HO := As.mk (show OwB v1w (w.heap.size) 5 v1 ((([] : List UInt8)) ++ (l)) by (have hm : (l).length = l.length := by first | rfl | exact HC.out | simp [le_length]); unfold OwB; rw [List.length_append, List.map_append, hm]; exact ho); have HB2 : As (Below w.heap.size w v1w) := As.mk (Below.grown (by repeat' first | exact HB.out | refine Below.alloc ?_ (by have := HB.out.size; first | omega | (simp; done) | (simp; omega)) _) hg (by have := HB.out.size; first | omega | (simp; done) | (simp; omega)) (by simp [Value.ownBlock])); have HGv1 := As.mk hg; clear ho hg ht; clear HB; have HB := HB2; clear HB2) | (at_builtin; refine wpList_app (w.heap.size) rfl (.tmp 7) (.tmp 19) 24 5 (.int .u8 0) 1 1 rfl Try.underlying24 info5 rfl (by decide) (v1) (.slice (some ⟨v1w.heap.size, 0, none⟩) 4 4) rfl rfl (([] : List UInt8) ++ l).length ((([] : List UInt8) ++ l).map u8v) ?own (4) ((le n 4).map u8v) ?rd (u8v_one _) ?b1 ?b2 ?b3 ?_; (case own => exact (HO.out.alloc _)); (case rd => exact (lit4le v1w n x HX.out HN.out)); (case b1 => have := HL.out; (try simp only [List.nil_append]); unfold maxLen; omega); (case b2 => have := HL.out; (try simp only [List.nil_append]); omega); (case b3 => have := HB.out.size; first | omega | (simp; done) | (simp; omega)); intro v2 v2w ho hg ht; have HO2 := As.mk (show OwB v2w (w.heap.size) 5 v2 ((([] : List UInt8) ++ l) ++ (le n 4)) by (have hm : (le n 4).length = 4 := by first | rfl | exact HC.out | simp [le_length]); unfold OwB; rw [List.length_append, List.map_append, hm]; exact ho); have HB2 : As (Below w.heap.size w v2w) := As.mk (Below.grown (by repeat' first | exact HB.out | refine Below.alloc ?_ (by have := HB.out.size; first | omega | (simp; done) | (simp; omega)) _) hg (by have := HB.out.size; first | omega | (simp; done) | (simp; omega)) (fun b hb => (HO.out.lt b hb).1)); have HGv2 := As.mk hg; clear ho hg ht; clear HB; have HB := HB2; clear HB2))
  go_ret
  exact ⟨_, rfl, HO2.out, HB.out⟩
theorem le8 (n : Nat) : le n 8 = le (n % 4294967296) 4 ++ le (n / 4294967296 % 4294967296) 4 := by
  have h : ∀ m k : Nat, UInt8.ofNat m = UInt8.ofNat k ↔ m % 256 = k % 256 := fun m k => by
    constructor
    · intro h
      have := congrArg UInt8.toNat h
      simpa using this
    · intro h
      apply UInt8.toNat_inj.1
      simpa using h
  simp [le]
  refine ⟨?_, ?_, ?_, ?_, ?_, ?_, ?_, ?_⟩ <;> rw [h] <;> omega
set_option maxHeartbeats 1000000 in
theorem big_ref (v : Value) (l : List UInt8) (n : Nat) (x : Int) (w : World) (hr : RdB w v l) (hl : l.length + 8 ≤ 140737488355328) (hn : n < 18446744073709551616) (hx : x = (n : Int)) :
    Calls Try.prog 27 #[v, .int .u64 x] w fun e w' => ∃ r, e = .returned r ∧ OwB w' w.heap.size 5 r (l ++ le n 8) ∧ Below w.heap.size w w' := by
  have HR := As.mk hr
  have HL := As.mk hl
  have h0 : 0 ≤ x := by omega
  have h1 : x ≤ 18446744073709551615 := by omega
  have HX := As.mk hx
  have HN := As.mk hn
  clear hr hl hx hn
  have HB : As (Below w.heap.size w w) := ⟨Below.refl _ _⟩
  go_enter Try.func27, Try.ntmps27
  go_wp2_with (first | (go_at_call 26; (with_reducible refine (small_ref _ l (n % 4294967296) _ _ HR.out (by have := HL.out; omega) (by omega) (by have := HX.out; omega)).mono ?_); rintro e w1 ⟨r1, rfl, ho, hb⟩; have HO1 := As.mk ho; have HB1 := As.mk hb; clear ho hb HR) | (go_at_call 26; (with_reducible refine (small_ref _ (l ++ le (n % 4294967296) 4) (n / 4294967296 % 4294967296) _ _ HO1.out.rd (by have := HL.out; rw [List.length_append, le_length]; omega) (by omega) (by have := HX.out; have := HN.out; omega)).mono ?_); rintro e w2 ⟨r2, rfl, ho, hb⟩; have HO2 := As.mk ho; have HB2 := As.mk hb; clear ho hb))
  go_ret
  refine ⟨_, rfl, ?_, HB1.out.trans (HB2.out.mono HB1.out.size)⟩
  rw [le8, ← List.append_assoc]
  exact HO2.out.mono HB1.out.size
theorem cnt_lit1 (w : World) (n : Nat) (x : Int) (hx : x = (n : Int)) (hn : n < 253) : RdS (w.alloc (.cells #[.int .u8 x] 5)) 1 (.slice (some ⟨w.heap.size, 0, none⟩) 1 1) 1 ((cnt n).map u8v) := by
  refine lit_rds w 5 (cnt n) _ ?_ 1 (by unfold cnt; rw [if_pos hn, le_length]) (by decide)
  unfold cnt
  rw [if_pos hn]
  simp only [le, List.nil_append, List.map_cons, List.map_nil, u8v, u8_ofNat, hx]
  simp
  omega
theorem cnt_lit3 (w : World) (n : Nat) (x : Int) (hx : x = (n : Int)) (h0 : 253 ≤ n) (hn : n < 65536) : RdS (w.alloc (.cells #[.int .u8 253, .int .u8 (x % 256), .int .u8 (x / 256)] 5)) 1 (.slice (some ⟨w.heap.size, 0, none⟩) 3 3) 3 ((cnt n).map u8v) := by
  have e : cnt n = le 253 1 ++ le n 2 := by unfold cnt; rw [if_neg (by omega), if_pos hn]
  refine lit_rds w 5 (cnt n) _ ?_ 3 (by rw [e]; simp [le_length]) (by decide)
  rw [e]
  have e2 : x / 256 = ((n / 256 : Nat) : Int) % 256 := by omega
  rw [e2]
  simp only [le, List.nil_append, List.cons_append, List.map_cons, List.map_nil, u8v, u8_ofNat, hx]
  simp
theorem cnt_len (n : Nat) : (n < 253 → (cnt n).length = 1) ∧ (253 ≤ n → n < 65536 → (cnt n).length = 3) := by
  unfold cnt
  refine ⟨fun h => by rw [if_pos h, le_length], fun h h2 => by rw [if_neg (by omega), if_pos h2]; simp [le_length]⟩
set_option maxRecDepth 100000 in
set_option maxHeartbeats 1000000 in
theorem count_ref (v : Value) (l : List UInt8) (x : Int) (w : World) (hr : RdB w v l) (hl : l.length + 5 ≤ 140737488355328) :
    Calls Try.prog 28 #[v, .int .i64 x] w fun e w' => ∃ r, e = .returned r ∧ OwB w' w.heap.size 5 r (l ++ cnt (clampU x)) ∧ Below w.heap.size w w' := by
  obtain ⟨A, c, rfl, -, -, -⟩ := hr.form
  have HR := As.mk hr
  have HL := As.mk hl
  clear hr hl
  go_enter Try.func28, Try.ntmps28
  go_upto_region 1 with (fail)
  go_cut [1] (fun v1 wc => ∃ N : Int, v1 = .int .i64 N ∧ 0 ≤ N ∧ N ≤ 4294967295 ∧ As (N = (clampU x : Int)) ∧ w = wc)
  case first =>
    by_cases k1 : x < 0
    · go_wp2
      go_meet
      exact ⟨0, rfl, by omega, by omega, ⟨by unfold clampU; omega⟩, rfl⟩
    have k1' : 0 ≤ x := by omega
    by_cases k2 : x ≤ 4294967295
    · go_wp2
      go_meet
      exact ⟨x, rfl, by omega, by omega, ⟨by unfold clampU; omega⟩, rfl⟩
    · have k2' : 4294967295 < x := by omega
      go_wp2
      go_meet
      exact ⟨4294967295, rfl, by omega, by omega, ⟨by unfold clampU; omega⟩, rfl⟩
  case rest =>
    obtain ⟨N, rfl, n0, n1, HN, rfl⟩ := hcut
    have HB : As (Below w.heap.size w w) := ⟨Below.refl _ _⟩
    go_upto_block 0 with ((at_builtin; refine wpList_app (w.heap.size) rfl (.tmp 9) (.tmp 10) 24 5 (.int .u8 0) 1 1 rfl Try.underlying24 info5 rfl (by decide) (.slice (some ⟨w.heap.size, 0, none⟩) 0 0) (.slice A l.length c) rfl rfl (([] : List UInt8)).length ((([] : List UInt8)).map u8v) ?own (l.length) ((l).map u8v) ?rd (u8v_one _) ?b1 ?b2 ?b3 ?_; (case own => exact (OwB.empty w _ _ (Nat.le_refl _))); (case rd => exact (HR.out.alloc _)); (case b1 => have := HL.out; (try simp only [List.length_nil]); unfold maxLen; omega); (case b2 => have := HL.out; (try simp only [List.length_nil]); omega); (case b3 => have := HB.out.size; first | omega | (simp; done) | (simp; omega)); intro v1 v1w ho hg ht; have HO := As.mk (show OwB v1w (w.heap.size) 5 v1 ((([] : List UInt8)) ++ (l)) by (have hm : (l).length = l.length := by first | rfl | exact HC.out | simp [le_length]); unfold OwB; rw [List.length_append, List.map_append, hm]; exact ho); have HB2 : As (Below w.heap.size w v1w) := As.mk (Below.grown (by repeat' first | exact HB.out | refine Below.alloc ?_ (by have := HB.out.size; first | omega | (simp; done) | (simp; omega)) _) hg (by have := HB.out.size; first | omega | (simp; done) | (simp; omega)) (by simp [Value.ownBlock])); have HGv1 := As.mk hg; clear ho hg ht; clear HB; have HB := HB2; clear HB2))
    clear HR
    by_cases c1 : N < 253
    · have hc := cnt_len (clampU x)
      have HC := As.mk (hc.1 (by have := HN.out; omega))
      clear hc
      have c1' : N % 256 = N := by omega
      go_wp2_with ((at_builtin; refine wpList_app (w.heap.size) rfl (.tmp 15) (.tmp 18) 24 5 (.int .u8 0) 1 1 rfl Try.underlying24 info5 rfl (by decide) (v1) (.slice (some ⟨v1w.heap.size, 0, none⟩) 1 1) rfl rfl (([] : List UInt8) ++ l).length ((([] : List UInt8) ++ l).map u8v) ?own (1) ((cnt (clampU x)).map u8v) ?rd (u8v_one _) ?b1 ?b2 ?b3 ?_; (case own => exact (HO.out.alloc _)); (case rd => exact (cnt_lit1 v1w _ N HN.out (by have := HN.out; omega))); (case b1 => have := HL.out; (try simp only [List.nil_append]); unfold maxLen; omega); (case b2 => have := HL.out; (try simp only [List.nil_append]); omega); (case b3 => have := HB.out.size; first | omega | (simp; done) | (simp; omega)); intro v2 v2w ho hg ht; have HO2 := As.mk (show OwB v2w (w.heap.size) 5 v2 ((([] : List UInt8) ++ l) ++ (cnt (clampU x))) by (have hm : (cnt (clampU x)).length = 1 := by first | rfl | exact HC.out | simp [le_length]); unfold OwB; rw [List.length_append, List.map_append, hm]; exact ho); have HB2 : As (Below w.heap.size w v2w) := As.mk (Below.grown (by repeat' first | exact HB.out | refine Below.alloc ?_ (by have := HB.out.size; first | omega | (simp; done) | (simp; omega)) _) hg (by have := HB.out.size; first | omega | (simp; done) | (simp; omega)) (fun b hb => (HO.out.lt b hb).1)); have HGv2 := As.mk hg; clear ho hg ht; clear HB; have HB := HB2; clear HB2))
      go_ret
      exact ⟨_, rfl, HO2.out, HB.out⟩
    by_cases c2 : N ≤ 65535
    · have hc := cnt_len (clampU x)
      have HC := As.mk (hc.2 (by have := HN.out; omega) (by have := HN.out; omega))
      clear hc
      go_wp2_with ((at_builtin; refine wpList_app (w.heap.size) rfl (.tmp 23) (.tmp 29) 24 5 (.int .u8 0) 1 1 rfl Try.underlying24 info5 rfl (by decide) (v1) (.slice (some ⟨v1w.heap.size, 0, none⟩) 3 3) rfl rfl (([] : List UInt8) ++ l).length ((([] : List UInt8) ++ l).map u8v) ?own (3) ((cnt (clampU x)).map u8v) ?rd (u8v_one _) ?b1 ?b2 ?b3 ?_; (case own => exact (HO.out.alloc _)); (case rd => exact (cnt_lit3 v1w _ N HN.out (by have := HN.out; omega) (by have := HN.out; omega))); (case b1 => have := HL.out; (try simp only [List.nil_append]); unfold maxLen; omega); (case b2 => have := HL.out; (try simp only [List.nil_append]); omega); (case b3 => have := HB.out.size; first | omega | (simp; done) | (simp; omega)); intro v2 v2w ho hg ht; have HO2 := As.mk (show OwB v2w (w.heap.size) 5 v2 ((([] : List UInt8) ++ l) ++ (cnt (clampU x))) by (have hm : (cnt (clampU x)).length = 3 := by first | rfl | exact HC.out | simp [le_length]); unfold OwB; rw [List.length_append, List.map_append, hm]; exact ho); have HB2 : As (Below w.heap.size w v2w) := As.mk (Below.grown (by repeat' first | exact HB.out | refine Below.alloc ?_ (by have := HB.out.size; first | omega | (simp; done) | (simp; omega)) _) hg (by have := HB.out.size; first | omega | (simp; done) | (simp; omega)) (fun b hb => (HO.out.lt b hb).1)); have HGv2 := As.mk hg; clear ho hg ht; clear HB; have HB := HB2; clear HB2))
      go_ret
      exact ⟨_, rfl, HO2.out, HB.out⟩
    · have c2' : 65535 < N := by omega
      go_wp2_with (first | (at_builtin; refine wpList_app (w.heap.size) rfl (.tmp 31) (.tmp 32) 24 5 (.int .u8 0) 1 1 rfl Try.underlying24 info5 rfl (by decide) (v1) (.slice (some ⟨v1w.heap.size, 0, none⟩) 1 1) rfl rfl (([] : List UInt8) ++ l).length ((([] : List UInt8) ++ l).map u8v) ?own (1) ((le 254 1).map u8v) ?rd (u8v_one _) ?b1 ?b2 ?b3 ?_; (case own => exact (HO.out.alloc _)); (case rd => exact (lit_bytes v1w 5 (le 254 1) _ rfl 1 rfl (by decide))); (case b1 => have := HL.out; (try simp only [List.nil_append]); unfold maxLen; omega); (case b2 => have := HL.out; (try simp only [List.nil_append]); omega); (case b3 => have := HB.out.size; first | omega | (simp; done) | (simp; omega)); intro v2 v2w ho hg ht; have HO2 := As.mk (show OwB v2w (w.heap.size) 5 v2 ((([] : List UInt8) ++ l) ++ (le 254 1)) by (have hm : (le 254 1).length = 1 := by first | rfl | exact HC.out | simp [le_length]); unfold OwB; rw [List.length_append, List.map_append, hm]; exact ho); have HB2 : As (Below w.heap.size w v2w) := As.mk (Below.grown (by repeat' first | exact HB.out | refine Below.alloc ?_ (by have := HB.out.size; first | omega | (simp; done) | (simp; omega)) _) hg (by have := HB.out.size; first | omega | (simp; done) | (simp; omega)) (fun b hb => (HO.out.lt b hb).1)); have HGv2 := As.mk hg; clear ho hg ht; clear HB; have HB := HB2; clear HB2) | (go_at_call 26; (with_reducible refine (small_ref _ ([] ++ l ++ le 254 1) (clampU x) _ _ HO2.out.rd (by have := HL.out; simp [le_length]; omega) (by have := HN.out; omega) (by have := HN.out; omega)).mono ?_); rintro e w3 ⟨r3, rfl, ho, hb⟩; have HO3 := As.mk ho; have HB3 := As.mk hb; clear ho hb))
      go_ret
      refine ⟨_, rfl, ?_, HB.out.trans (HB3.out.mono HB.out.size)⟩
      have e : cnt (clampU x) = le 254 1 ++ le (clampU x) 4 := by have := HN.out; unfold cnt; rw [if_neg (by omega), if_neg (by omega)]
      rw [e, ← List.append_assoc]
      exact HO3.out.mono HB.out.size
end Go.Proofs.Ytfggkljgfadacaa.W
