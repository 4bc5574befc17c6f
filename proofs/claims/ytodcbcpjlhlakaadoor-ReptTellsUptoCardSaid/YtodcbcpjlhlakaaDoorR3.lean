/- What is told: numbers without a sign, and the document's numbers. -/
import Derived.Test.YtodcbcpjlhlakaaDoorR2
import Derived.Lib.ItoaMem
import Derived.Lib.AppendIntMem
set_option linter.unusedVariables false
set_option linter.unusedSimpArgs false
namespace Go.Proofs.YtodcbcpjlhlakaaDoor.W
open Go.RowKit Go.Proofs.YtodcbcpjlhlakaaDoor.B Go.Proofs Go.Sort Go.Lib

theorem below_put (w : World) (cs : Array Value) (t : TypeId) (f : UInt8 → Value) (dk : Array UInt8) (k : Nat) : Below w.heap.size w ((putRow f (w.alloc (.cells cs t)) w.heap.size 0 dk).drewN k) := by
  obtain ⟨os', _, e⟩ := putRow_grow_new f w #[.cells cs t] w.heap.size 0 dk (Nat.le_refl _)
  rw [alloc_eq_grow, e]
  exact ⟨rfl, rfl, rfl, by simp [grow], fun j hj => by
    show (w.heap ++ os')[j]? = _
    rw [Array.getElem?_append_left hj]⟩
set_option maxHeartbeats 4000000 in
set_option maxRecDepth 100000 in
theorem fmt_any (u : Nat) (hu64 : u < 18446744073709551616) (w : World) (he : Env w) :
    Calls Tryd.prog 35 #[.int .u64 (u : Int), .int .i64 10] w fun e w' => e = .returned (str (decDigits u)) ∧ Below w.heap.size w w' := by
  have HE := As.mk he.1
  clear he
  by_cases hs : u < 100
  · have hs' : (u : Int) < 100 := by omega
    go_enter Tryd.func35, Tryd.ntmps35
    go_wp2_with (go_at_call 45; (with_reducible refine (Tryd.internal_strconv_small u hs _).mono ?_); rintro e w' ⟨rfl, rfl⟩)
    go_ret
    exact ⟨rfl, Below.refl _ _⟩
  · have hs' : ¬ (u : Int) < 100 := by omega
    have hu1 : 1 ≤ u := by omega
    have hnd20 : nDigits u ≤ 20 := by have := numDigits_eq u hu1 hu64; split at this <;> omega
    have hsl1 : ∀ W, (Instr.sliceAt 74 (.pointer (some ⟨w.heap.size, 0, none⟩)) none (some (.int .i64 (nDigits u : Int))) none).run Tryd.prog W = .ok (.slice (some ⟨w.heap.size, 0, none⟩) (nDigits u) 24) W := fun W => by
      have hal : Tryd.prog.arrayLen 74 = 24 := by kernel_rfl
      rw [run_sliceAt_array_h W 74 ⟨w.heap.size, 0, none⟩ (by kernel_rfl) .i64 (nDigits u : Int) (by omega) (by rw [hal]; omega)]
      go_simp
    have hH0 := holds_zero0 w 74 (nDigits u) (by omega)
    have hfmt := Tryd.internal_strconv_formatBase10 w.heap.size 0 24 u (Array.replicate (nDigits u) 0) (w.alloc (.cells zeros24 74)) hH0 (by rw [Array.size_replicate]; exact lt_pow_nDigits u) hu64 (by rw [Array.size_replicate]; omega)
    rw [Array.size_replicate] at hfmt
    have HH0 := hid hH0
    clear hH0
    go_enter Tryd.func35, Tryd.ntmps35
    go_wp2_with (first
      | (go_at_call 46; (with_reducible refine (Tryd.internal_strconv_numDigits u hu1 hu64 _ (tabIs_alloc HE.out _)).mono ?_); rintro e w' ⟨rfl, rfl⟩)
      | (go_at_call 47; refine hfmt.mono ?_; rintro e w' ⟨rfl, k, v', dk, rfl, hF⟩; have hcv : (convert 29 9 (.slice (some ⟨w.heap.size, 0, none⟩) (nDigits u) 24)).run Tryd.prog ((putRow (fun (b : UInt8) => Value.int .u8 (b.toNat : Int)) (w.alloc (.cells zeros24 74)) w.heap.size 0 dk).drewN k) = .ok (.string ⟨(decDigits u).toArray⟩) ((putRow (fun (b : UInt8) => Value.int .u8 (b.toNat : Int)) (w.alloc (.cells zeros24 74)) w.heap.size 0 dk).drewN k) := (by
          have h := run_convert_bytes_back (P := Tryd.prog) ((putRow (fun (b : UInt8) => Value.int .u8 (b.toNat : Int)) (w.alloc (.cells zeros24 74)) w.heap.size 0 dk).drewN k) 29 9 5 ⟨w.heap.size, 0, none⟩ 24 (decDigits u) Tryd.underlying29 Tryd.underlying5 Tryd.underlying9 (fun j hj => by
            rw [row_is_numeral hF j hj, add_plain, World.cell?_drewN]
            exact cell?_putRow (fun (b : UInt8) => Value.int .u8 (b.toNat : Int)) _ w.heap.size 0 _ dk HH0.out (by rw [hF.size, Array.size_replicate]) j (by rw [hF.size]; rw [decDigits_length] at hj; exact hj))
          rw [decDigits_length] at h
          exact h)))
    go_ret
    exact ⟨rfl, below_put _ _ _ _ _ _⟩
theorem ufmt_any (u : Nat) (hu64 : u < 18446744073709551616) (w : World) (he : Env w) :
    Calls Tryd.prog 19 #[.int .u64 (u : Int), .int .i64 10] w fun e w' => e = .returned (str (decDigits u)) ∧ Below w.heap.size w w' := by
  go_enter Tryd.func19, Tryd.ntmps19
  go_wp2_with (go_at_call 35; (with_reducible refine (fmt_any u hu64 _ he).mono ?_); rintro e w1 ⟨rfl, hb⟩)
  go_ret
  exact ⟨rfl, hb⟩
end Go.Proofs.YtodcbcpjlhlakaaDoor.W
