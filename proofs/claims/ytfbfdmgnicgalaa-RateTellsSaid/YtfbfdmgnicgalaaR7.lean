/- rate.up, rate.Need, rate.Per, rate.Add, whole. -/
import Derived.Test.YtfbfdmgnicgalaaR6
import Derived.Test.YtfbfdmgnicgalaaR4
set_option linter.unusedVariables false
set_option linter.unusedSimpArgs false
namespace Go.Proofs.Ytfbfdmgnicgalaa.W
open Go.RowKit Go.Proofs.Ytfbfdmgnicgalaa.B Go.Proofs

/-- A product by a number, rounded up, as far as may be. -/
def upN (a b y : Nat) : Nat := min ((a * b + y - 1) / y) 18446744073709551615
theorem upN_lt (a b y : Nat) : upN a b y < 18446744073709551616 := by unfold upN; omega
theorem ceil_eq (p y : Nat) (hy : 0 < y) : (p + y - 1) / y = if 0 < p % y then p / y + 1 else p / y := by
  have h1 := Nat.div_add_mod p y
  have h2 := Nat.mod_lt p hy
  generalize p / y = q at *
  generalize p % y = r at *
  have e : p + y - 1 = y * (if 0 < r then q + 1 else q) + (if 0 < r then r - 1 else y - 1) := by
    rw [← h1]
    split
    · rw [Nat.mul_add]; omega
    · omega
  rw [e, Nat.mul_add_div hy, Nat.div_eq_of_lt (by split <;> omega), Nat.add_zero]
theorem div64_any (hi lo y : Nat) (h : lo < 18446744073709551616) (hy : hi < y) (hy2 : y < 18446744073709551616) (w : World) :
    Calls Try.prog 41 #[.int .u64 (hi : Int), .int .u64 (lo : Int), .int .u64 (y : Int)] w fun e w' => e = .returned (.tuple #[.int .u64 (((hi * 18446744073709551616 + lo) / y : Nat) : Int), .int .u64 (((hi * 18446744073709551616 + lo) % y : Nat) : Int)]) ∧ Below w.heap.size w w' := by
  rcases Nat.eq_zero_or_pos hi with rfl | hp
  · have := div64_low lo y h (by omega) hy2 w
    rw [Nat.zero_mul, Nat.zero_add]
    exact this
  · refine (div64_high hi lo y h hp hy hy2 w).mono ?_
    rintro e w' ⟨he, rfl⟩
    exact ⟨he, Below.refl _ _⟩
set_option maxRecDepth 100000 in
set_option maxHeartbeats 1000000 in
theorem up_any (a b y : Nat) (ha : a < 18446744073709551616) (hb : b < 18446744073709551616) (hy : 0 < y) (hy2 : y < 18446744073709551616) (w : World) :
    Calls Try.prog 35 #[.int .u64 (a : Int), .int .u64 (b : Int), .int .u64 (y : Int)] w fun e w' => e = .returned (.int .u64 (upN a b y : Int)) ∧ Below w.heap.size w w' := by
  have HM := As.mk (mul64_any a b ha hb w)
  have HU := As.mk (show upN a b y = min ((a * b + y - 1) / y) 18446744073709551615 from rfl)
  generalize upN a b y = Z at *
  generalize a * b = p at *
  have hpq := Nat.div_add_mod p 18446744073709551616
  have hlo := Nat.mod_lt p (show 0 < 18446744073709551616 by decide)
  generalize p / 18446744073709551616 = H at *
  generalize p % 18446744073709551616 = L at *
  obtain ⟨HI, hHI⟩ : ∃ x : Int, x = (H : Int) := ⟨_, rfl⟩
  obtain ⟨LI, hLI⟩ : ∃ x : Int, x = (L : Int) := ⟨_, rfl⟩
  obtain ⟨YI, hYI⟩ : ∃ x : Int, x = (y : Int) := ⟨_, rfl⟩
  obtain ⟨ZI, hZI⟩ : ∃ x : Int, x = (Z : Int) := ⟨_, rfl⟩
  rw [← hYI, ← hZI]
  rw [← hHI, ← hLI] at HM
  by_cases c : y ≤ H
  · have hz : As (ZI = 18446744073709551615) := ⟨by
      have h3 : 18446744073709551616 * y ≤ p + y - 1 := by
        have := Nat.mul_le_mul_left 18446744073709551616 c
        omega
      have h4 : 18446744073709551616 ≤ (p + y - 1) / y := (Nat.le_div_iff_mul_le hy).2 h3
      have := HU.out
      omega⟩
    have c1 : YI ≤ HI := by omega
    clear hpq hlo c hHI hLI hYI hZI hy hy2 HU ha hb
    go_enter Try.func35, Try.ntmps35
    go_wp2_with (go_at_call 32; (with_reducible refine HM.out.mono ?_); rintro e w' ⟨rfl, rfl⟩)
    go_ret
    exact ⟨by rw [hz.out]; rfl, Below.refl _ _⟩
  · have c1 : HI < YI := by omega
    have HD := As.mk (div64_any H L y hlo (by omega) hy2 w)
    have hq : (H * 18446744073709551616 + L) = p := by omega
    rw [hq, ← hHI, ← hLI, ← hYI] at HD
    have hce := ceil_eq p y hy
    have hqM : p / y < 18446744073709551616 := by
      refine Nat.div_lt_of_lt_mul ?_
      have h5 := Nat.mul_le_mul_left 18446744073709551616 (show H + 1 ≤ y by omega)
      rw [Nat.mul_comm y]
      omega
    generalize p / y = q at *
    generalize p % y = r at *
    obtain ⟨QI, hQI⟩ : ∃ x : Int, x = (q : Int) := ⟨_, rfl⟩
    obtain ⟨RI, hRI⟩ : ∃ x : Int, x = (r : Int) := ⟨_, rfl⟩
    rw [← hQI, ← hRI] at HD
    have q0 : 0 ≤ QI := by omega
    have q1 : QI ≤ 18446744073709551615 := by omega
    by_cases d : 0 < r
    · have d1 : 0 < RI := by omega
      rw [if_pos d] at hce
      by_cases f : q < 18446744073709551615
      · have f1 : QI < 18446744073709551615 := by omega
        have hz : As (ZI = QI + 1) := ⟨by have := HU.out; omega⟩
        clear hpq hlo c hHI hLI hYI hZI hy hy2 HU ha hb hq hce hqM hQI hRI d f
        go_enter Try.func35, Try.ntmps35
        go_wp2_with (first | (go_at_call 32; (with_reducible refine HM.out.mono ?_); rintro e w' ⟨rfl, rfl⟩) | (go_at_call 41; (with_reducible refine HD.out.mono ?_); rintro e w' ⟨rfl, hb⟩; have HB := As.mk hb; clear hb))
        go_ret
        exact ⟨by rw [hz.out]; rfl, HB.out⟩
      · have f1 : ¬ QI < 18446744073709551615 := by omega
        have hz : As (ZI = QI) := ⟨by have := HU.out; omega⟩
        clear hpq hlo c hHI hLI hYI hZI hy hy2 HU ha hb hq hce hqM hQI hRI d f
        go_enter Try.func35, Try.ntmps35
        go_wp2_with (first | (go_at_call 32; (with_reducible refine HM.out.mono ?_); rintro e w' ⟨rfl, rfl⟩) | (go_at_call 41; (with_reducible refine HD.out.mono ?_); rintro e w' ⟨rfl, hb⟩; have HB := As.mk hb; clear hb))
        go_ret
        exact ⟨by rw [hz.out]; rfl, HB.out⟩
    · rw [if_neg d] at hce
      have d1 : ¬ 0 < RI := by omega
      have hz : As (ZI = QI) := ⟨by have := HU.out; omega⟩
      clear hpq hlo c hHI hLI hYI hZI hy hy2 HU ha hb hq hce hqM hQI hRI d
      go_enter Try.func35, Try.ntmps35
      go_wp2_with (first | (go_at_call 32; (with_reducible refine HM.out.mono ?_); rintro e w' ⟨rfl, rfl⟩) | (go_at_call 41; (with_reducible refine HD.out.mono ?_); rintro e w' ⟨rfl, hb⟩; have HB := As.mk hb; clear hb))
      go_ret
      exact ⟨by rw [hz.out]; rfl, HB.out⟩
/-- What a size needs at a rate. -/
def needR (p : Nat) (n : Int) : Nat := upN p (needN n) 1000
theorem need_any (p : Nat) (n : Int) (hp : p < 18446744073709551616) (w : World) :
    Calls Try.prog 20 #[.int .u64 (p : Int), .int .i64 n] w fun e w' => e = .returned (.int .u64 (needR p n : Int)) ∧ Below w.heap.size w w' :=
  need_of p n w fun w => up_any p (needN n) 1000 hp (by have := needN_le n; omega) (by omega) (by omega) w
/-- What a thousand need. -/
def perR (f : Nat) (s : Int) : Nat := upN 1000 f (szN s)
theorem per_any (f : Nat) (s : Int) (hf : f < 18446744073709551616) (hs : s ≤ 9223372036854775807) (w : World) :
    Calls Try.prog 22 #[.agg #[.int .u64 (f : Int), .int .i64 s]] w fun e w' => e = .returned (.int .u64 (perR f s : Int)) ∧ Below w.heap.size w w' := by
  have H : As (∀ w, Calls Try.prog 35 #[.int .u64 1000, .int .u64 (f : Int), .int .u64 (szN s : Int)] w fun e w' => e = .returned (.int .u64 (perR f s : Int)) ∧ Below w.heap.size w w') := ⟨fun w => up_any 1000 f (szN s) (by omega) hf (szN_pos s) (by have := szN_lt s hs; omega) w⟩
  obtain ⟨z, hz⟩ : ∃ z : Int, z = szN s := ⟨_, rfl⟩
  have h1 := szN_eq s
  have h2 := szN_lt s hs
  have h3 := szN_pos s
  rw [← hz] at h1 H
  have hw : IntKind.u64.wrap z = z := IntWalk.u64_in _ (by omega)
  have h1' : max s 1 = z := by rw [← h1]; split <;> omega
  clear hz h2 h3 hs hf
  go_enter Try.func22, Try.ntmps22
  go_wp2_with (go_at_call 35; (with_reducible refine (H.out _).mono ?_); rintro e w' ⟨rfl, hb⟩; have HB := As.mk hb; clear hb)
  go_ret
  exact ⟨rfl, ((Below.refl _ _).alloc (Nat.le_refl _) _).trans (HB.out.mono (by simp))⟩

theorem add_add (a : Addr) (i j : Nat) : (a.add i).add j = a.add (i + j) := by
  unfold Addr.add
  by_cases hi : i = 0 <;> by_cases hj : j = 0 <;> simp [hi, hj, Nat.add_assoc]
/-- Rates as they lie in a slice. -/
def rcells (l : List (Nat × Int)) : List Value := l.flatMap fun r => [.int .u64 (r.1 : Int), .int .i64 r.2]
def addF (l : List (Nat × Int)) : Nat := (l.map (·.1)).sum % 18446744073709551616
def addS (l : List (Nat × Int)) : Int := IntKind.i64.wrap (l.map (·.2)).sum
theorem rcells_length (l : List (Nat × Int)) : (rcells l).length = l.length * 2 := by
  induction l with
  | nil => rfl
  | cons r t ih => unfold rcells at *; rw [List.flatMap_cons, List.length_append, ih]; simp; omega
theorem rcells_at (l : List (Nat × Int)) (k : Nat) (h : k < l.length) : (rcells l)[k * 2]? = some (.int .u64 ((l[k]).1 : Int)) ∧ (rcells l)[k * 2 + 1]? = some (.int .i64 (l[k]).2) := by
  induction l generalizing k with
  | nil => simp at h
  | cons r t ih =>
    cases k with
    | zero => simp [rcells]
    | succ k =>
      have := ih k (by simpa using h)
      simp only [rcells, List.flatMap_cons] at this ⊢
      rw [show (k + 1) * 2 = k * 2 + 1 + 1 by omega]
      simpa using this
theorem addF_snoc (l : List (Nat × Int)) (k : Nat) (h : k < l.length) : addF (l.take (k + 1)) = (addF (l.take k) + (l[k]).1) % 18446744073709551616 := by
  unfold addF
  rw [List.take_succ_eq_append_getElem h, List.map_append, List.sum_append]
  simp
theorem addS_snoc (l : List (Nat × Int)) (k : Nat) (h : k < l.length) : addS (l.take (k + 1)) = IntKind.i64.wrap (addS (l.take k) + (l[k]).2) := by
  unfold addS
  rw [List.take_succ_eq_append_getElem h, List.map_append, List.sum_append]
  simp only [List.map_cons, List.map_nil, List.sum_cons, List.sum_nil, Int.add_zero]
  rw [IntKind.wrap_i64, IntKind.wrap_i64, IntKind.wrap_i64]
  omega
set_option maxRecDepth 100000 in
set_option maxHeartbeats 1000000 in
theorem add_any (v : Value) (l : List (Nat × Int)) (w : World) (hr : RdS w 2 v l.length (rcells l)) (hf : ∀ r ∈ l, r.1 < 18446744073709551616) :
    Calls Try.prog 26 #[v] w fun e w' => e = .returned (.agg #[.int .u64 (addF l : Int), .int .i64 (addS l)]) ∧ Below w.heap.size w w' := by
  obtain ⟨hl, A, c, rfl, h1, h2, h3, h4⟩ := hr
  have h2' := h2
  unfold maxLen at h2'
  have hlm : (l.length : Int) ≤ 9223372036854775807 := by omega
  have H4 := As.mk h4
  have H3 := As.mk h3
  have H1 := As.mk h1
  clear h1 h2 h3 h4 hl h2'
  go_enter Try.func26, Try.ntmps26
  go_wp2_with fail
  have hB0 : As (Below w.heap.size w ((w.alloc (Obj.cells #[Value.int IntKind.u64 0, Value.int IntKind.i64 0] 40)).alloc (Obj.cells #[Value.int IntKind.u64 0, Value.int IntKind.i64 0] 40))) := ⟨((Below.refl _ _).alloc (Nat.le_refl _) _).alloc (by simp) _⟩
  have hC0 : As (((w.alloc (Obj.cells #[Value.int IntKind.u64 0, Value.int IntKind.i64 0] 40)).alloc (Obj.cells #[Value.int IntKind.u64 0, Value.int IntKind.i64 0] 40)).heap[w.heap.size]? = some (.cells #[.int .u64 0, .int .i64 0] 40 (0, 0)) ∧
    ((w.alloc (Obj.cells #[Value.int IntKind.u64 0, Value.int IntKind.i64 0] 40)).alloc (Obj.cells #[Value.int IntKind.u64 0, Value.int IntKind.i64 0] 40)).heap[w.heap.size + 1]? = some (.cells #[.int .u64 0, .int .i64 0] 40 (0, 0))) := ⟨by
    refine ⟨?_, ?_⟩
    · exact heap_alloc2_old _ _ _
    · exact heap_alloc2_new _ _ _⟩
  go_loopw [8] (fun v8 wr => ∃ k : Nat, (k : Int) ≤ l.length ∧ v8 = .int .i64 (k : Int) ∧ As (Below w.heap.size w wr) ∧ As (wr.heap[w.heap.size]? = some (.cells #[.int .u64 0, .int .i64 0] 40 (0, 0)) ∧ wr.heap[w.heap.size + 1]? = some (.cells #[.int .u64 (addF (l.take k) : Int), .int .i64 (addS (l.take k))] 40 (0, 0)))) (fun v8 _ => l.length - (intOf v8).toNat)
  case atStart => exact ⟨0, by omega, rfl, hB0, by have e1 : addF (l.take 0) = 0 := rfl; have e2 : addS (l.take 0) = 0 := (by unfold addS; rw [IntKind.wrap_i64]; rfl); rw [e1, e2]; exact hC0⟩
  case round =>
    obtain ⟨k, hk, rfl, HB, HC⟩ := hrel
    by_cases hlt : (k : Int) < l.length
    · have hlt' : k < l.length := by omega
      rcases A with _ | ad
      · have h5 := H3.out rfl
        have h6 := H1.out
        omega
      obtain ⟨e1, e2⟩ := rcells_at l k hlt'
      have q1 := cell_of_below HB.out (H4.out ad rfl _ _ e1)
      have q2 := cell_of_below HB.out (H4.out ad rfl _ _ e2)
      rw [← add_add] at q2
      obtain ⟨c0, c1, f0, f1⟩ := two_cell HC.out.2
      have b1 := addF_snoc l k hlt'
      have b2 := addS_snoc l k hlt'
      have HB1 := As.mk b1
      have HB2 := As.mk b2
      have q2' : wr.cell? ⟨(ad.add (k * 2)).block, (ad.add (k * 2)).off + 1, none⟩ = some (.int .i64 (l[k]).2) := q2
      have hz : w.heap.size + 1 < wr.heap.size := (Array.getElem?_eq_some_iff.1 HC.out.2).1
      clear e1 e2 b1 b2 q2
      go_wp2_with fail
      go_roundw
      case rel =>
        refine ⟨k + 1, by omega, by go_num, ⟨((HB.out.setCell (Nat.le_succ _) _).setCell (Nat.le_succ _) _).alloc (by have := HB.out.size; simp; omega) _⟩, ⟨?_, ?_⟩⟩
        · rw [heap_alloc_old _ _ (by simp; omega), Below.heap_setCell _ _ _ _ (by simp), Below.heap_setCell _ _ _ _ (by simp)]
          exact HC.out.1
        · rw [heap_alloc_old _ _ (by simp; omega), two_set1 (two_set0 HC.out.2 _) _, HB1.out, HB2.out]
          have e1 : IntKind.u64.wrap ((addF (l.take k) : Int) + ((l[k]).1 : Int)) = ((addF (l.take k) + (l[k]).1) % 18446744073709551616 : Nat) := by rw [IntKind.wrap_u64]; omega
          have e2 : ∀ n : Int, RowKit.wrap64 n = IntKind.i64.wrap n := fun n => by rw [IntKind.wrap_i64]; unfold RowKit.wrap64; omega
          rw [e1, e2]
      case measure => simp [intOf]; omega
    · have hke : k = l.length := by omega
      subst hke
      rw [List.take_length] at HC
      obtain ⟨c0, c1, f0, f1⟩ := two_cell HC.out.2
      obtain ⟨g0, g1, h0, h1⟩ := two_cell HC.out.1
      have hz : w.heap.size + 1 < wr.heap.size := (Array.getElem?_eq_some_iff.1 HC.out.2).1
      go_wp2_with fail
      obtain ⟨p0, p1, -, -⟩ := two_cell (two_set1 (two_set0 HC.out.1 (.int .u64 (addF l : Int))) (.int .i64 (addS l)))
      exact bodyPost_ret (v := .agg #[.int .u64 (addF l : Int), .int .i64 (addS l)]) (by simp [results, Try.results26, go_sem, p0, p1]) rfl ⟨rfl, (HB.out.setCell (by simp) _).setCell (by simp) _⟩
end Go.Proofs.Ytfbfdmgnicgalaa.W
