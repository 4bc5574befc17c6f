/- bytes.Equal, bytes.HasPrefix, clas.Kind. -/
import Derived.Test.YtfbfdmgnicgalaaMake
import Derived.Test.YtfbfdmgnicgalaaProg
import Derived.KernelRfl
import Derived.LoopTactic
set_option linter.unusedVariables false
set_option linter.unusedSimpArgs false
namespace Go.Proofs.Ytfbfdmgnicgalaa.W
open Go.RowKit Go.Proofs.Ytfbfdmgnicgalaa.B Go.Proofs

theorem info5 : (Try.prog.info? 5).map (fun i => (i.zero, i.size, i.bytes)) = some (some (.int .u8 0), 1, 1) := by kernel_rfl
theorem size5 : (Try.prog.info? 5).map (·.size) = some 1 := by kernel_rfl
theorem equal_any (a b : Value) (X Y : List UInt8) (w : World) (ha : RdB w a X) (hb : RdB w b Y) :
    Calls Try.prog 39 #[a, b] w fun e w' => e = .returned (.bool (X == Y)) ∧ w = w' := by
  have hca := run_str (P := Try.prog) 36 9 5 Try.underlying36 Try.underlying5 Try.underlying9 ha
  have hcb := run_str (P := Try.prog) 36 9 5 Try.underlying36 Try.underlying5 Try.underlying9 hb
  clear ha hb
  go_enter Try.func39, Try.ntmps39
  go_wp2
  go_ret
  exact ⟨rfl, rfl⟩
theorem prefix_any (a b : Value) (L X : List UInt8) (w : World) (ha : RdB w a L) (hb : RdB w b X) :
    Calls Try.prog 29 #[a, b] w fun e w' => e = .returned (.bool (L.take X.length == X)) ∧ w = w' := by
  obtain ⟨A, c, rfl, hc, -⟩ := RdB.form ha
  obtain ⟨A', c', rfl, -⟩ := RdB.form hb
  by_cases h : X.length ≤ L.length
  · have h' : (X.length : Int) ≤ L.length := by omega
    have hct := fun W => run_cut_to (P := Try.prog) 36 5 1 Try.underlying36 size5 A L.length c X.length (Nat.le_trans h hc) W
    have HA := As.mk (RdB.to ha X.length h)
    have HB := As.mk hb
    clear ha hb
    go_enter Try.func29, Try.ntmps29
    go_wp2_with (go_at_call 39; (with_reducible refine (equal_any _ _ _ _ _ HA.out HB.out).mono ?_); rintro e w' ⟨rfl, rfl⟩)
    go_ret
    exact ⟨rfl, rfl⟩
  · have h' : ¬ (X.length : Int) ≤ L.length := by omega
    have h2 : (L.take X.length == X) = false := by
      refine beq_eq_false_iff_ne.mpr fun e => h ?_
      have := congrArg List.length e
      rw [List.length_take] at this
      omega
    clear ha hb
    go_enter Try.func29, Try.ntmps29
    go_wp2
    go_ret
    exact ⟨by first | rfl | (rw [h2]; rfl), rfl⟩
theorem is_any (D : Nat) (v b : Value) (L X : List UInt8) (n : Int) (w : World) (hD : w.cell? ⟨D, 0, none⟩ = some v) (hv : RdB w v L) (hb : RdB w b X) :
    Calls Try.prog 28 #[.int .i64 n, b, .pointer (some ⟨D, 0, none⟩)] w fun e w' => e = .returned (.bool (((L.length : Int) == n) && (L.take X.length == X))) ∧ w = w' := by
  obtain ⟨A, c, rfl, -⟩ := RdB.form hv
  have HV := As.mk hv
  have HB := As.mk hb
  clear hv hb
  by_cases h : (L.length : Int) = n
  · subst h
    go_enter Try.func28, Try.ntmps28
    go_wp2_with (go_at_call 29; (with_reducible refine (prefix_any _ _ _ _ _ HV.out HB.out).mono ?_); rintro e w' ⟨rfl, rfl⟩)
    go_ret
    exact ⟨by simp, rfl⟩
  · have h2 : ((L.length : Int) == n) = false := beq_eq_false_iff_ne.mpr h
    go_enter Try.func28, Try.ntmps28
    go_wp2
    go_ret
    exact ⟨by first | rfl | (rw [h2]; rfl), rfl⟩
theorem is_to (D : Nat) (v b : Value) (L X : List UInt8) (n : Int) (w : World) {r : Bool} (hq : (((L.length : Int) == n) && (L.take X.length == X)) = r) (hD : w.cell? ⟨D, 0, none⟩ = some v) (hv : RdB w v L) (hb : RdB w b X) :
    Calls Try.prog 28 #[.int .i64 n, b, .pointer (some ⟨D, 0, none⟩)] w fun e w' => e = .returned (.bool r) ∧ w = w' := by
  rw [← hq]
  exact is_any D v b L X n w hD hv hb
theorem prefix_to (a b : Value) (L X : List UInt8) (w : World) {r : Bool} (hq : (L.take X.length == X) = r) (ha : RdB w a L) (hb : RdB w b X) :
    Calls Try.prog 29 #[a, b] w fun e w' => e = .returned (.bool r) ∧ w = w' := by
  rw [← hq]
  exact prefix_any a b L X w ha hb
theorem cell_alloc {w : World} {a : Addr} {v : Value} (o : Obj) (h : w.cell? a = some v) : (w.alloc o).cell? a = some v := cell_of_below ((Below.refl _ _).alloc (Nat.le_refl _) o) h
theorem rdb_alloc {w : World} {v : Value} {L : List UInt8} (o : Obj) (h : RdB w v L) : RdB (w.alloc o) v L := RdS.alloc h o
theorem lit4 (w : World) {g : Nat} (hg : g = w.heap.size) : RdB (w.alloc (.cells #[.int .u8 81, .int .u8 2, .int .u8 78, .int .u8 115] 5)) (.slice (some ⟨g, 0, none⟩) 4 4) [81, 2, 78, 115] := by
  subst hg
  exact (OwS.lit w w.heap.size 5 1 4 #[.int .u8 81, .int .u8 2, .int .u8 78, .int .u8 115] (Nat.le_refl _) (by decide) rfl).rd
theorem lit_0_20 (w : World) {g : Nat} (hg : g = w.heap.size) : RdB (w.alloc (.cells #[.int .u8 0, .int .u8 20] 5)) (.slice (some ⟨g, 0, none⟩) 2 2) [0, 20] := by
  subst hg
  exact (OwS.lit w w.heap.size 5 1 2 #[.int .u8 0, .int .u8 20] (Nat.le_refl _) (by decide) rfl).rd
theorem lit_0_32 (w : World) {g : Nat} (hg : g = w.heap.size) : RdB (w.alloc (.cells #[.int .u8 0, .int .u8 32] 5)) (.slice (some ⟨g, 0, none⟩) 2 2) [0, 32] := by
  subst hg
  exact (OwS.lit w w.heap.size 5 1 2 #[.int .u8 0, .int .u8 32] (Nat.le_refl _) (by decide) rfl).rd
theorem lit_81_32 (w : World) {g : Nat} (hg : g = w.heap.size) : RdB (w.alloc (.cells #[.int .u8 81, .int .u8 32] 5)) (.slice (some ⟨g, 0, none⟩) 2 2) [81, 32] := by
  subst hg
  exact (OwS.lit w w.heap.size 5 1 2 #[.int .u8 81, .int .u8 32] (Nat.le_refl _) (by decide) rfl).rd
theorem lit_106 (w : World) {g : Nat} (hg : g = w.heap.size) : RdB (w.alloc (.cells #[.int .u8 106] 5)) (.slice (some ⟨g, 0, none⟩) 1 1) [106] := by
  subst hg
  exact (OwS.lit w w.heap.size 5 1 1 #[.int .u8 106] (Nat.le_refl _) (by decide) rfl).rd
def isK (L : List UInt8) (n : Int) (X : List UInt8) : Bool := ((L.length : Int) == n) && (L.take X.length == X)
def kindOf (L : List UInt8) : Int :=
  if isK L 4 [81, 2, 78, 115] then 1 else if isK L 22 [0, 20] then 2 else if isK L 34 [0, 32] then 3 else if isK L 34 [81, 32] then 4 else
  if L.length ≤ 83 ∧ (L.take 1 == [106]) = true then 5 else 0
set_option maxHeartbeats 4000000 in
set_option maxRecDepth 100000 in
theorem kind_any (v : Value) (L : List UInt8) (w : World) (hv : RdB w v L) :
    Calls Try.prog 17 #[v] w fun e w' => e = .returned (.int .i64 (kindOf L)) ∧ Below w.heap.size w w' := by
  obtain ⟨A, c, rfl, -⟩ := RdB.form hv
  have HV : As (∀ o, RdB (w.alloc o) (.slice A L.length c) L) := ⟨fun o => rdb_alloc o hv⟩
  have hmf : ∀ (fn : Fn) (first cap : Array Value) (w : World), (Instr.makeFunc fn first cap).run Try.prog w = .ok (.func fn first cap) w := fun _ _ _ _ => rfl
  have c0 : As ((w.alloc (.cells #[.slice A L.length c] 36)).cell? ⟨w.heap.size, 0, none⟩ = some (.slice A L.length c)) := ⟨by simp⟩
  clear hv
  by_cases k0 : isK L 4 [81, 2, 78, 115] = true
  · have HK0 := As.mk (show (((L.length : Int) == 4) && (L.take ([81, 2, 78, 115] : List UInt8).length == [81, 2, 78, 115])) = true from k0)
    have HKO : As (kindOf L = 1) := ⟨by unfold kindOf; rw [if_pos k0]⟩
    clear k0
    go_enter Try.func17, Try.ntmps17
    go_wp2_with (first | (go_at_call 28; (with_reducible refine (is_to _ (.slice A L.length c) _ L [81, 2, 78, 115] 4 _ HK0.out (by repeat' first | exact c0.out | apply cell_alloc) (by repeat' first | exact HV.out _ | apply rdb_alloc) (lit4 _ (by simp))).mono ?_); rintro e w' ⟨rfl, rfl⟩))
    go_ret
    exact ⟨by rw [HKO.out]; rfl, by repeat' first | exact Below.refl _ _ | refine Below.alloc ?_ (by first | (simp; done) | (simp; omega)) _⟩
  have HK0 := As.mk (show (((L.length : Int) == 4) && (L.take ([81, 2, 78, 115] : List UInt8).length == [81, 2, 78, 115])) = false from Bool.eq_false_iff.mpr k0)
  by_cases k1 : isK L 22 [0, 20] = true
  · have HK1 := As.mk (show (((L.length : Int) == 22) && (L.take ([0, 20] : List UInt8).length == [0, 20])) = true from k1)
    have HKO : As (kindOf L = 2) := ⟨by unfold kindOf; rw [if_neg k0, if_pos k1]⟩
    clear k0 k1
    go_enter Try.func17, Try.ntmps17
    go_wp2_with (first | (go_at_call 28; (with_reducible refine (is_to _ (.slice A L.length c) _ L [81, 2, 78, 115] 4 _ HK0.out (by repeat' first | exact c0.out | apply cell_alloc) (by repeat' first | exact HV.out _ | apply rdb_alloc) (lit4 _ (by simp))).mono ?_); rintro e w' ⟨rfl, rfl⟩) | (go_at_call 28; (with_reducible refine (is_to _ (.slice A L.length c) _ L [0, 20] 22 _ HK1.out (by repeat' first | exact c0.out | apply cell_alloc) (by repeat' first | exact HV.out _ | apply rdb_alloc) (lit_0_20 _ (by simp))).mono ?_); rintro e w' ⟨rfl, rfl⟩))
    go_ret
    exact ⟨by rw [HKO.out]; rfl, by repeat' first | exact Below.refl _ _ | refine Below.alloc ?_ (by first | (simp; done) | (simp; omega)) _⟩
  have HK1 := As.mk (show (((L.length : Int) == 22) && (L.take ([0, 20] : List UInt8).length == [0, 20])) = false from Bool.eq_false_iff.mpr k1)
  by_cases k2 : isK L 34 [0, 32] = true
  · have HK2 := As.mk (show (((L.length : Int) == 34) && (L.take ([0, 32] : List UInt8).length == [0, 32])) = true from k2)
    have HKO : As (kindOf L = 3) := ⟨by unfold kindOf; rw [if_neg k0, if_neg k1, if_pos k2]⟩
    clear k0 k1 k2
    go_enter Try.func17, Try.ntmps17
    go_wp2_with (first | (go_at_call 28; (with_reducible refine (is_to _ (.slice A L.length c) _ L [81, 2, 78, 115] 4 _ HK0.out (by repeat' first | exact c0.out | apply cell_alloc) (by repeat' first | exact HV.out _ | apply rdb_alloc) (lit4 _ (by simp))).mono ?_); rintro e w' ⟨rfl, rfl⟩) | (go_at_call 28; (with_reducible refine (is_to _ (.slice A L.length c) _ L [0, 20] 22 _ HK1.out (by repeat' first | exact c0.out | apply cell_alloc) (by repeat' first | exact HV.out _ | apply rdb_alloc) (lit_0_20 _ (by simp))).mono ?_); rintro e w' ⟨rfl, rfl⟩) | (go_at_call 28; (with_reducible refine (is_to _ (.slice A L.length c) _ L [0, 32] 34 _ HK2.out (by repeat' first | exact c0.out | apply cell_alloc) (by repeat' first | exact HV.out _ | apply rdb_alloc) (lit_0_32 _ (by simp))).mono ?_); rintro e w' ⟨rfl, rfl⟩))
    go_ret
    exact ⟨by rw [HKO.out]; rfl, by repeat' first | exact Below.refl _ _ | refine Below.alloc ?_ (by first | (simp; done) | (simp; omega)) _⟩
  have HK2 := As.mk (show (((L.length : Int) == 34) && (L.take ([0, 32] : List UInt8).length == [0, 32])) = false from Bool.eq_false_iff.mpr k2)
  by_cases k3 : isK L 34 [81, 32] = true
  · have HK3 := As.mk (show (((L.length : Int) == 34) && (L.take ([81, 32] : List UInt8).length == [81, 32])) = true from k3)
    have HKO : As (kindOf L = 4) := ⟨by unfold kindOf; rw [if_neg k0, if_neg k1, if_neg k2, if_pos k3]⟩
    clear k0 k1 k2 k3
    go_enter Try.func17, Try.ntmps17
    go_wp2_with (first | (go_at_call 28; (with_reducible refine (is_to _ (.slice A L.length c) _ L [81, 2, 78, 115] 4 _ HK0.out (by repeat' first | exact c0.out | apply cell_alloc) (by repeat' first | exact HV.out _ | apply rdb_alloc) (lit4 _ (by simp))).mono ?_); rintro e w' ⟨rfl, rfl⟩) | (go_at_call 28; (with_reducible refine (is_to _ (.slice A L.length c) _ L [0, 20] 22 _ HK1.out (by repeat' first | exact c0.out | apply cell_alloc) (by repeat' first | exact HV.out _ | apply rdb_alloc) (lit_0_20 _ (by simp))).mono ?_); rintro e w' ⟨rfl, rfl⟩) | (go_at_call 28; (with_reducible refine (is_to _ (.slice A L.length c) _ L [0, 32] 34 _ HK2.out (by repeat' first | exact c0.out | apply cell_alloc) (by repeat' first | exact HV.out _ | apply rdb_alloc) (lit_0_32 _ (by simp))).mono ?_); rintro e w' ⟨rfl, rfl⟩) | (go_at_call 28; (with_reducible refine (is_to _ (.slice A L.length c) _ L [81, 32] 34 _ HK3.out (by repeat' first | exact c0.out | apply cell_alloc) (by repeat' first | exact HV.out _ | apply rdb_alloc) (lit_81_32 _ (by simp))).mono ?_); rintro e w' ⟨rfl, rfl⟩))
    go_ret
    exact ⟨by rw [HKO.out]; rfl, by repeat' first | exact Below.refl _ _ | refine Below.alloc ?_ (by first | (simp; done) | (simp; omega)) _⟩
  have HK3 := As.mk (show (((L.length : Int) == 34) && (L.take ([81, 32] : List UInt8).length == [81, 32])) = false from Bool.eq_false_iff.mpr k3)
  by_cases k5 : L.length ≤ 83
  · have k5' : (L.length : Int) ≤ 83 := by omega
    obtain ⟨r, hr⟩ : ∃ r, (L.take 1 == [106]) = r := ⟨_, rfl⟩
    have HK5 := As.mk (show (L.take ([106] : List UInt8).length == [106]) = r from hr)
    have HKO : As (kindOf L = if r then 5 else 0) := ⟨by unfold kindOf; rw [if_neg k0, if_neg k1, if_neg k2, if_neg k3, hr]; cases r <;> simp [k5]⟩
    clear k0 k1 k2 k3 hr
    cases r
    · go_enter Try.func17, Try.ntmps17
      go_wp2_with (first | (go_at_call 28; (with_reducible refine (is_to _ (.slice A L.length c) _ L [81, 2, 78, 115] 4 _ HK0.out (by repeat' first | exact c0.out | apply cell_alloc) (by repeat' first | exact HV.out _ | apply rdb_alloc) (lit4 _ (by simp))).mono ?_); rintro e w' ⟨rfl, rfl⟩) | (go_at_call 28; (with_reducible refine (is_to _ (.slice A L.length c) _ L [0, 20] 22 _ HK1.out (by repeat' first | exact c0.out | apply cell_alloc) (by repeat' first | exact HV.out _ | apply rdb_alloc) (lit_0_20 _ (by simp))).mono ?_); rintro e w' ⟨rfl, rfl⟩) | (go_at_call 28; (with_reducible refine (is_to _ (.slice A L.length c) _ L [0, 32] 34 _ HK2.out (by repeat' first | exact c0.out | apply cell_alloc) (by repeat' first | exact HV.out _ | apply rdb_alloc) (lit_0_32 _ (by simp))).mono ?_); rintro e w' ⟨rfl, rfl⟩) | (go_at_call 28; (with_reducible refine (is_to _ (.slice A L.length c) _ L [81, 32] 34 _ HK3.out (by repeat' first | exact c0.out | apply cell_alloc) (by repeat' first | exact HV.out _ | apply rdb_alloc) (lit_81_32 _ (by simp))).mono ?_); rintro e w' ⟨rfl, rfl⟩) | (go_at_call 29; (with_reducible refine (prefix_to _ _ L [106] _ HK5.out (by repeat' first | exact HV.out _ | apply rdb_alloc) (lit_106 _ (by simp))).mono ?_); rintro e w' ⟨rfl, rfl⟩))
      go_ret
      exact ⟨by rw [HKO.out]; rfl, by repeat' first | exact Below.refl _ _ | refine Below.alloc ?_ (by first | (simp; done) | (simp; omega)) _⟩
    · go_enter Try.func17, Try.ntmps17
      go_wp2_with (first | (go_at_call 28; (with_reducible refine (is_to _ (.slice A L.length c) _ L [81, 2, 78, 115] 4 _ HK0.out (by repeat' first | exact c0.out | apply cell_alloc) (by repeat' first | exact HV.out _ | apply rdb_alloc) (lit4 _ (by simp))).mono ?_); rintro e w' ⟨rfl, rfl⟩) | (go_at_call 28; (with_reducible refine (is_to _ (.slice A L.length c) _ L [0, 20] 22 _ HK1.out (by repeat' first | exact c0.out | apply cell_alloc) (by repeat' first | exact HV.out _ | apply rdb_alloc) (lit_0_20 _ (by simp))).mono ?_); rintro e w' ⟨rfl, rfl⟩) | (go_at_call 28; (with_reducible refine (is_to _ (.slice A L.length c) _ L [0, 32] 34 _ HK2.out (by repeat' first | exact c0.out | apply cell_alloc) (by repeat' first | exact HV.out _ | apply rdb_alloc) (lit_0_32 _ (by simp))).mono ?_); rintro e w' ⟨rfl, rfl⟩) | (go_at_call 28; (with_reducible refine (is_to _ (.slice A L.length c) _ L [81, 32] 34 _ HK3.out (by repeat' first | exact c0.out | apply cell_alloc) (by repeat' first | exact HV.out _ | apply rdb_alloc) (lit_81_32 _ (by simp))).mono ?_); rintro e w' ⟨rfl, rfl⟩) | (go_at_call 29; (with_reducible refine (prefix_to _ _ L [106] _ HK5.out (by repeat' first | exact HV.out _ | apply rdb_alloc) (lit_106 _ (by simp))).mono ?_); rintro e w' ⟨rfl, rfl⟩))
      go_ret
      exact ⟨by rw [HKO.out]; rfl, by repeat' first | exact Below.refl _ _ | refine Below.alloc ?_ (by first | (simp; done) | (simp; omega)) _⟩
  · have k5' : ¬ (L.length : Int) ≤ 83 := by omega
    have HKO : As (kindOf L = 0) := ⟨by unfold kindOf; rw [if_neg k0, if_neg k1, if_neg k2, if_neg k3, if_neg (fun h => k5 h.1)]⟩
    clear k0 k1 k2 k3
    go_enter Try.func17, Try.ntmps17
    go_wp2_with (first | (go_at_call 28; (with_reducible refine (is_to _ (.slice A L.length c) _ L [81, 2, 78, 115] 4 _ HK0.out (by repeat' first | exact c0.out | apply cell_alloc) (by repeat' first | exact HV.out _ | apply rdb_alloc) (lit4 _ (by simp))).mono ?_); rintro e w' ⟨rfl, rfl⟩) | (go_at_call 28; (with_reducible refine (is_to _ (.slice A L.length c) _ L [0, 20] 22 _ HK1.out (by repeat' first | exact c0.out | apply cell_alloc) (by repeat' first | exact HV.out _ | apply rdb_alloc) (lit_0_20 _ (by simp))).mono ?_); rintro e w' ⟨rfl, rfl⟩) | (go_at_call 28; (with_reducible refine (is_to _ (.slice A L.length c) _ L [0, 32] 34 _ HK2.out (by repeat' first | exact c0.out | apply cell_alloc) (by repeat' first | exact HV.out _ | apply rdb_alloc) (lit_0_32 _ (by simp))).mono ?_); rintro e w' ⟨rfl, rfl⟩) | (go_at_call 28; (with_reducible refine (is_to _ (.slice A L.length c) _ L [81, 32] 34 _ HK3.out (by repeat' first | exact c0.out | apply cell_alloc) (by repeat' first | exact HV.out _ | apply rdb_alloc) (lit_81_32 _ (by simp))).mono ?_); rintro e w' ⟨rfl, rfl⟩))
    go_ret
    exact ⟨by rw [HKO.out]; rfl, by repeat' first | exact Below.refl _ _ | refine Below.alloc ?_ (by first | (simp; done) | (simp; omega)) _⟩
end Go.Proofs.Ytfbfdmgnicgalaa.W
