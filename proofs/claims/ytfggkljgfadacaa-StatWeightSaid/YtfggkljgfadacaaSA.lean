/- Layer 8: kinds, dust, sums, values. -/
import Derived.Test.YtfggkljgfadacaaU
import Derived.LoopTactic
import Derived.Deep.RegionHeld3
import Derived.Deep.DeepCutAuto
import Derived.Deep.CutBlock
import Derived.Lib.SlBytesConst
set_option linter.unusedVariables false
set_option linter.unusedSimpArgs false
namespace Go.Proofs.Ytfggkljgfadacaa.W
open Go.RowKit Go.Proofs.Ytfggkljgfadacaa.B Go.Proofs

theorem prefix_any (a b : Value) (L X : List UInt8) (w : World) (ha : RdB w a L) (hb : RdB w b X) :
    Calls Try.prog 101 #[a, b] w fun e w' => e = .returned (.bool (L.take X.length == X)) ∧ w = w' := by
  obtain ⟨A, c, rfl, hc, -⟩ := RdB.form ha
  obtain ⟨A', c', rfl, -⟩ := RdB.form hb
  by_cases h : X.length ≤ L.length
  · have h' : (X.length : Int) ≤ L.length := by omega
    have hct := fun W => run_cut_to (P := Try.prog) 24 5 1 Try.underlying24 size5 A L.length c X.length (Nat.le_trans h hc) W
    have HA := As.mk (RdB.to ha X.length h)
    have HB := As.mk hb
    clear ha hb
    go_enter Try.func101, Try.ntmps101
    go_wp2_with (go_at_call 85; (with_reducible refine (equal_any _ _ _ _ _ HA.out HB.out).mono ?_); rintro e w' ⟨rfl, rfl⟩)
    go_ret
    exact ⟨rfl, rfl⟩
  · have h' : ¬ (X.length : Int) ≤ L.length := by omega
    have h2 : (L.take X.length == X) = false := by
      refine beq_eq_false_iff_ne.mpr fun e => h ?_
      have := congrArg List.length e
      rw [List.length_take] at this
      omega
    clear ha hb
    go_enter Try.func101, Try.ntmps101
    go_wp2
    go_ret
    exact ⟨by first | rfl | (rw [h2]; rfl), rfl⟩
theorem is_any (D : Nat) (v b : Value) (L X : List UInt8) (n : Int) (w : World) (hD : w.cell? ⟨D, 0, none⟩ = some v) (hv : RdB w v L) (hb : RdB w b X) :
    Calls Try.prog 100 #[.int .i64 n, b, .pointer (some ⟨D, 0, none⟩)] w fun e w' => e = .returned (.bool (((L.length : Int) == n) && (L.take X.length == X))) ∧ w = w' := by
  obtain ⟨A, c, rfl, -⟩ := RdB.form hv
  have HV := As.mk hv
  have HB := As.mk hb
  clear hv hb
  by_cases h : (L.length : Int) = n
  · subst h
    go_enter Try.func100, Try.ntmps100
    go_wp2_with (go_at_call 101; (with_reducible refine (prefix_any _ _ _ _ _ HV.out HB.out).mono ?_); rintro e w' ⟨rfl, rfl⟩)
    go_ret
    exact ⟨by simp, rfl⟩
  · have h2 : ((L.length : Int) == n) = false := beq_eq_false_iff_ne.mpr h
    go_enter Try.func100, Try.ntmps100
    go_wp2
    go_ret
    exact ⟨by first | rfl | (rw [h2]; rfl), rfl⟩
theorem is_to (D : Nat) (v b : Value) (L X : List UInt8) (n : Int) (w : World) {r : Bool} (hq : (((L.length : Int) == n) && (L.take X.length == X)) = r) (hD : w.cell? ⟨D, 0, none⟩ = some v) (hv : RdB w v L) (hb : RdB w b X) :
    Calls Try.prog 100 #[.int .i64 n, b, .pointer (some ⟨D, 0, none⟩)] w fun e w' => e = .returned (.bool r) ∧ w = w' := by
  rw [← hq]
  exact is_any D v b L X n w hD hv hb
theorem prefix_to (a b : Value) (L X : List UInt8) (w : World) {r : Bool} (hq : (L.take X.length == X) = r) (ha : RdB w a L) (hb : RdB w b X) :
    Calls Try.prog 101 #[a, b] w fun e w' => e = .returned (.bool r) ∧ w = w' := by
  rw [← hq]
  exact prefix_any a b L X w ha hb
theorem cell_alloc {w : World} {a : Addr} {v : Value} (o : Obj) (h : w.cell? a = some v) : (w.alloc o).cell? a = some v := cell_of_below ((Below.refl _ _).alloc (Nat.le_refl _) o) h
theorem rdb_alloc {w : World} {v : Value} {L : List UInt8} (o : Obj) (h : RdB w v L) : RdB (w.alloc o) v L := RdS.alloc h o
theorem lit4 (w : World) {g : Nat} (hg : g = w.heap.size) : RdB (w.alloc (.cells #[.int .u8 81, .int .u8 2, .int .u8 78, .int .u8 115] 5)) (.slice (some ⟨g, 0, none⟩) 4 4) [81, 2, 78, 115] := by
  subst hg
  exact (OwS.lit w w.heap.size 5 1 4 #[.int .u8 81, .int .u8 2, .int .u8 78, .int .u8 115] (Nat.le_refl _) (by decide) rfl).rd
theorem lit_0_20 (w : World) {g : Nat} (hg : g = w.heap.size) : RdB (w.alloc (.cells #[.int .u8 0, .int .u8 20] 5)) (.slice (some ⟨g, 0, none⟩) 2 2) [0, 20] := by
  subst hg
  exact (OwS.lit w w.heap.size 5 1 2 #[.int .u8 0, .int .u8 20] (Nat.le_refl _) (by decide) rfl).rd
theorem lit_0_32 (w : World) {g : Nat} (hg : g = w.heap.size) : RdB (w.alloc (.cells #[.int .u8 0, .int .u8 32] 5)) (.slice (some ⟨g, 0, none⟩) 2 2) [0, 32] := by
  subst hg
  exact (OwS.lit w w.heap.size 5 1 2 #[.int .u8 0, .int .u8 32] (Nat.le_refl _) (by decide) rfl).rd
theorem lit_81_32 (w : World) {g : Nat} (hg : g = w.heap.size) : RdB (w.alloc (.cells #[.int .u8 81, .int .u8 32] 5)) (.slice (some ⟨g, 0, none⟩) 2 2) [81, 32] := by
  subst hg
  exact (OwS.lit w w.heap.size 5 1 2 #[.int .u8 81, .int .u8 32] (Nat.le_refl _) (by decide) rfl).rd
theorem lit_106 (w : World) {g : Nat} (hg : g = w.heap.size) : RdB (w.alloc (.cells #[.int .u8 106] 5)) (.slice (some ⟨g, 0, none⟩) 1 1) [106] := by
  subst hg
  exact (OwS.lit w w.heap.size 5 1 1 #[.int .u8 106] (Nat.le_refl _) (by decide) rfl).rd
def isK (L : List UInt8) (n : Int) (X : List UInt8) : Bool := ((L.length : Int) == n) && (L.take X.length == X)
def kindOf (L : List UInt8) : Int :=
  if isK L 4 [81, 2, 78, 115] then 1 else if isK L 22 [0, 20] then 2 else if isK L 34 [0, 32] then 3 else if isK L 34 [81, 32] then 4 else
  if L.length ≤ 83 ∧ (L.take 1 == [106]) = true then 5 else 0
set_option maxHeartbeats 4000000 in
set_option maxRecDepth 100000 in
theorem kind_any (v : Value) (L : List UInt8) (w : World) (hv : RdB w v L) :
    Calls Try.prog 92 #[v] w fun e w' => e = .returned (.int .i64 (kindOf L)) ∧ Below w.heap.size w w' := by
  obtain ⟨A, c, rfl, -⟩ := RdB.form hv
  have HV : As (∀ o, RdB (w.alloc o) (.slice A L.length c) L) := ⟨fun o => rdb_alloc o hv⟩
  have hmf : ∀ (fn : Fn) (first cap : Array Value) (w : World), (Instr.makeFunc fn first cap).run Try.prog w = .ok (.func fn first cap) w := fun _ _ _ _ => rfl
  have c0 : As ((w.alloc (.cells #[.slice A L.length c] 24)).cell? ⟨w.heap.size, 0, none⟩ = some (.slice A L.length c)) := ⟨by simp⟩
  clear hv
  by_cases k0 : isK L 4 [81, 2, 78, 115] = true
  · have HK0 := As.mk (show (((L.length : Int) == 4) && (L.take ([81, 2, 78, 115] : List UInt8).length == [81, 2, 78, 115])) = true from k0)
    have HKO : As (kindOf L = 1) := ⟨by unfold kindOf; rw [if_pos k0]⟩
    clear k0
    go_enter Try.func92, Try.ntmps92
    go_wp2_with (first | (go_at_call 100; (with_reducible refine (is_to _ (.slice A L.length c) _ L [81, 2, 78, 115] 4 _ HK0.out (by repeat' first | exact c0.out | apply cell_alloc) (by repeat' first | exact HV.out _ | apply rdb_alloc) (lit4 _ (by simp))).mono ?_); rintro e w' ⟨rfl, rfl⟩))
    go_ret
    exact ⟨by rw [HKO.out]; rfl, by repeat' first | exact Below.refl _ _ | refine Below.alloc ?_ (by first | (simp; done) | (simp; omega)) _⟩
  have HK0 := As.mk (show (((L.length : Int) == 4) && (L.take ([81, 2, 78, 115] : List UInt8).length == [81, 2, 78, 115])) = false from Bool.eq_false_iff.mpr k0)
  by_cases k1 : isK L 22 [0, 20] = true
  · have HK1 := As.mk (show (((L.length : Int) == 22) && (L.take ([0, 20] : List UInt8).length == [0, 20])) = true from k1)
    have HKO : As (kindOf L = 2) := ⟨by unfold kindOf; rw [if_neg k0, if_pos k1]⟩
    clear k0 k1
    go_enter Try.func92, Try.ntmps92
    go_wp2_with (first | (go_at_call 100; (with_reducible refine (is_to _ (.slice A L.length c) _ L [81, 2, 78, 115] 4 _ HK0.out (by repeat' first | exact c0.out | apply cell_alloc) (by repeat' first | exact HV.out _ | apply rdb_alloc) (lit4 _ (by simp))).mono ?_); rintro e w' ⟨rfl, rfl⟩) | (go_at_call 100; (with_reducible refine (is_to _ (.slice A L.length c) _ L [0, 20] 22 _ HK1.out (by repeat' first | exact c0.out | apply cell_alloc) (by repeat' first | exact HV.out _ | apply rdb_alloc) (lit_0_20 _ (by simp))).mono ?_); rintro e w' ⟨rfl, rfl⟩))
    go_ret
    exact ⟨by rw [HKO.out]; rfl, by repeat' first | exact Below.refl _ _ | refine Below.alloc ?_ (by first | (simp; done) | (simp; omega)) _⟩
  have HK1 := As.mk (show (((L.length : Int) == 22) && (L.take ([0, 20] : List UInt8).length == [0, 20])) = false from Bool.eq_false_iff.mpr k1)
  by_cases k2 : isK L 34 [0, 32] = true
  · have HK2 := As.mk (show (((L.length : Int) == 34) && (L.take ([0, 32] : List UInt8).length == [0, 32])) = true from k2)
    have HKO : As (kindOf L = 3) := ⟨by unfold kindOf; rw [if_neg k0, if_neg k1, if_pos k2]⟩
    clear k0 k1 k2
    go_enter Try.func92, Try.ntmps92
    go_wp2_with (first | (go_at_call 100; (with_reducible refine (is_to _ (.slice A L.length c) _ L [81, 2, 78, 115] 4 _ HK0.out (by repeat' first | exact c0.out | apply cell_alloc) (by repeat' first | exact HV.out _ | apply rdb_alloc) (lit4 _ (by simp))).mono ?_); rintro e w' ⟨rfl, rfl⟩) | (go_at_call 100; (with_reducible refine (is_to _ (.slice A L.length c) _ L [0, 20] 22 _ HK1.out (by repeat' first | exact c0.out | apply cell_alloc) (by repeat' first | exact HV.out _ | apply rdb_alloc) (lit_0_20 _ (by simp))).mono ?_); rintro e w' ⟨rfl, rfl⟩) | (go_at_call 100; (with_reducible refine (is_to _ (.slice A L.length c) _ L [0, 32] 34 _ HK2.out (by repeat' first | exact c0.out | apply cell_alloc) (by repeat' first | exact HV.out _ | apply rdb_alloc) (lit_0_32 _ (by simp))).mono ?_); rintro e w' ⟨rfl, rfl⟩))
    go_ret
    exact ⟨by rw [HKO.out]; rfl, by repeat' first | exact Below.refl _ _ | refine Below.alloc ?_ (by first | (simp; done) | (simp; omega)) _⟩
  have HK2 := As.mk (show (((L.length : Int) == 34) && (L.take ([0, 32] : List UInt8).length == [0, 32])) = false from Bool.eq_false_iff.mpr k2)
  by_cases k3 : isK L 34 [81, 32] = true
  · have HK3 := As.mk (show (((L.length : Int) == 34) && (L.take ([81, 32] : List UInt8).length == [81, 32])) = true from k3)
    have HKO : As (kindOf L = 4) := ⟨by unfold kindOf; rw [if_neg k0, if_neg k1, if_neg k2, if_pos k3]⟩
    clear k0 k1 k2 k3
    go_enter Try.func92, Try.ntmps92
    go_wp2_with (first | (go_at_call 100; (with_reducible refine (is_to _ (.slice A L.length c) _ L [81, 2, 78, 115] 4 _ HK0.out (by repeat' first | exact c0.out | apply cell_alloc) (by repeat' first | exact HV.out _ | apply rdb_alloc) (lit4 _ (by simp))).mono ?_); rintro e w' ⟨rfl, rfl⟩) | (go_at_call 100; (with_reducible refine (is_to _ (.slice A L.length c) _ L [0, 20] 22 _ HK1.out (by repeat' first | exact c0.out | apply cell_alloc) (by repeat' first | exact HV.out _ | apply rdb_alloc) (lit_0_20 _ (by simp))).mono ?_); rintro e w' ⟨rfl, rfl⟩) | (go_at_call 100; (with_reducible refine (is_to _ (.slice A L.length c) _ L [0, 32] 34 _ HK2.out (by repeat' first | exact c0.out | apply cell_alloc) (by repeat' first | exact HV.out _ | apply rdb_alloc) (lit_0_32 _ (by simp))).mono ?_); rintro e w' ⟨rfl, rfl⟩) | (go_at_call 100; (with_reducible refine (is_to _ (.slice A L.length c) _ L [81, 32] 34 _ HK3.out (by repeat' first | exact c0.out | apply cell_alloc) (by repeat' first | exact HV.out _ | apply rdb_alloc) (lit_81_32 _ (by simp))).mono ?_); rintro e w' ⟨rfl, rfl⟩))
    go_ret
    exact ⟨by rw [HKO.out]; rfl, by repeat' first | exact Below.refl _ _ | refine Below.alloc ?_ (by first | (simp; done) | (simp; omega)) _⟩
  have HK3 := As.mk (show (((L.length : Int) == 34) && (L.take ([81, 32] : List UInt8).length == [81, 32])) = false from Bool.eq_false_iff.mpr k3)
  by_cases k5 : L.length ≤ 83
  · have k5' : (L.length : Int) ≤ 83 := by omega
    obtain ⟨r, hr⟩ : ∃ r, (L.take 1 == [106]) = r := ⟨_, rfl⟩
    have HK5 := As.mk (show (L.take ([106] : List UInt8).length == [106]) = r from hr)
    have HKO : As (kindOf L = if r then 5 else 0) := ⟨by unfold kindOf; rw [if_neg k0, if_neg k1, if_neg k2, if_neg k3, hr]; cases r <;> simp [k5]⟩
    clear k0 k1 k2 k3 hr
    cases r
    · go_enter Try.func92, Try.ntmps92
      go_wp2_with (first | (go_at_call 100; (with_reducible refine (is_to _ (.slice A L.length c) _ L [81, 2, 78, 115] 4 _ HK0.out (by repeat' first | exact c0.out | apply cell_alloc) (by repeat' first | exact HV.out _ | apply rdb_alloc) (lit4 _ (by simp))).mono ?_); rintro e w' ⟨rfl, rfl⟩) | (go_at_call 100; (with_reducible refine (is_to _ (.slice A L.length c) _ L [0, 20] 22 _ HK1.out (by repeat' first | exact c0.out | apply cell_alloc) (by repeat' first | exact HV.out _ | apply rdb_alloc) (lit_0_20 _ (by simp))).mono ?_); rintro e w' ⟨rfl, rfl⟩) | (go_at_call 100; (with_reducible refine (is_to _ (.slice A L.length c) _ L [0, 32] 34 _ HK2.out (by repeat' first | exact c0.out | apply cell_alloc) (by repeat' first | exact HV.out _ | apply rdb_alloc) (lit_0_32 _ (by simp))).mono ?_); rintro e w' ⟨rfl, rfl⟩) | (go_at_call 100; (with_reducible refine (is_to _ (.slice A L.length c) _ L [81, 32] 34 _ HK3.out (by repeat' first | exact c0.out | apply cell_alloc) (by repeat' first | exact HV.out _ | apply rdb_alloc) (lit_81_32 _ (by simp))).mono ?_); rintro e w' ⟨rfl, rfl⟩) | (go_at_call 101; (with_reducible refine (prefix_to _ _ L [106] _ HK5.out (by repeat' first | exact HV.out _ | apply rdb_alloc) (lit_106 _ (by simp))).mono ?_); rintro e w' ⟨rfl, rfl⟩))
      go_ret
      exact ⟨by rw [HKO.out]; rfl, by repeat' first | exact Below.refl _ _ | refine Below.alloc ?_ (by first | (simp; done) | (simp; omega)) _⟩
    · go_enter Try.func92, Try.ntmps92
      go_wp2_with (first | (go_at_call 100; (with_reducible refine (is_to _ (.slice A L.length c) _ L [81, 2, 78, 115] 4 _ HK0.out (by repeat' first | exact c0.out | apply cell_alloc) (by repeat' first | exact HV.out _ | apply rdb_alloc) (lit4 _ (by simp))).mono ?_); rintro e w' ⟨rfl, rfl⟩) | (go_at_call 100; (with_reducible refine (is_to _ (.slice A L.length c) _ L [0, 20] 22 _ HK1.out (by repeat' first | exact c0.out | apply cell_alloc) (by repeat' first | exact HV.out _ | apply rdb_alloc) (lit_0_20 _ (by simp))).mono ?_); rintro e w' ⟨rfl, rfl⟩) | (go_at_call 100; (with_reducible refine (is_to _ (.slice A L.length c) _ L [0, 32] 34 _ HK2.out (by repeat' first | exact c0.out | apply cell_alloc) (by repeat' first | exact HV.out _ | apply rdb_alloc) (lit_0_32 _ (by simp))).mono ?_); rintro e w' ⟨rfl, rfl⟩) | (go_at_call 100; (with_reducible refine (is_to _ (.slice A L.length c) _ L [81, 32] 34 _ HK3.out (by repeat' first | exact c0.out | apply cell_alloc) (by repeat' first | exact HV.out _ | apply rdb_alloc) (lit_81_32 _ (by simp))).mono ?_); rintro e w' ⟨rfl, rfl⟩) | (go_at_call 101; (with_reducible refine (prefix_to _ _ L [106] _ HK5.out (by repeat' first | exact HV.out _ | apply rdb_alloc) (lit_106 _ (by simp))).mono ?_); rintro e w' ⟨rfl, rfl⟩))
      go_ret
      exact ⟨by rw [HKO.out]; rfl, by repeat' first | exact Below.refl _ _ | refine Below.alloc ?_ (by first | (simp; done) | (simp; omega)) _⟩
  · have k5' : ¬ (L.length : Int) ≤ 83 := by omega
    have HKO : As (kindOf L = 0) := ⟨by unfold kindOf; rw [if_neg k0, if_neg k1, if_neg k2, if_neg k3, if_neg (fun h => k5 h.1)]⟩
    clear k0 k1 k2 k3
    go_enter Try.func92, Try.ntmps92
    go_wp2_with (first | (go_at_call 100; (with_reducible refine (is_to _ (.slice A L.length c) _ L [81, 2, 78, 115] 4 _ HK0.out (by repeat' first | exact c0.out | apply cell_alloc) (by repeat' first | exact HV.out _ | apply rdb_alloc) (lit4 _ (by simp))).mono ?_); rintro e w' ⟨rfl, rfl⟩) | (go_at_call 100; (with_reducible refine (is_to _ (.slice A L.length c) _ L [0, 20] 22 _ HK1.out (by repeat' first | exact c0.out | apply cell_alloc) (by repeat' first | exact HV.out _ | apply rdb_alloc) (lit_0_20 _ (by simp))).mono ?_); rintro e w' ⟨rfl, rfl⟩) | (go_at_call 100; (with_reducible refine (is_to _ (.slice A L.length c) _ L [0, 32] 34 _ HK2.out (by repeat' first | exact c0.out | apply cell_alloc) (by repeat' first | exact HV.out _ | apply rdb_alloc) (lit_0_32 _ (by simp))).mono ?_); rintro e w' ⟨rfl, rfl⟩) | (go_at_call 100; (with_reducible refine (is_to _ (.slice A L.length c) _ L [81, 32] 34 _ HK3.out (by repeat' first | exact c0.out | apply cell_alloc) (by repeat' first | exact HV.out _ | apply rdb_alloc) (lit_81_32 _ (by simp))).mono ?_); rintro e w' ⟨rfl, rfl⟩))
    go_ret
    exact ⟨by rw [HKO.out]; rfl, by repeat' first | exact Below.refl _ _ | refine Below.alloc ?_ (by first | (simp; done) | (simp; omega)) _⟩
def leastOf (k : Int) : Int := if k = 1 then 240 else if k = 2 then 294 else if k = 3 then 330 else if k = 4 then 330 else 0
theorem least_any (k : Int) (w : World) : Calls Try.prog 102 #[.int .i64 k] w fun e w' => e = .returned (.int .u64 (leastOf k)) ∧ w = w' := by
  by_cases k0 : k = 1
  · have HKO : As (leastOf k = 240) := ⟨by subst k0; decide⟩
    subst k0
    go_enter Try.func102, Try.ntmps102
    go_wp2
    go_ret
    exact ⟨by rw [HKO.out]; rfl, rfl⟩
  by_cases k1 : k = 2
  · have HKO : As (leastOf k = 294) := ⟨by subst k1; decide⟩
    subst k1
    go_enter Try.func102, Try.ntmps102
    go_wp2
    go_ret
    exact ⟨by rw [HKO.out]; rfl, rfl⟩
  by_cases k2 : k = 3
  · have HKO : As (leastOf k = 330) := ⟨by subst k2; decide⟩
    subst k2
    go_enter Try.func102, Try.ntmps102
    go_wp2
    go_ret
    exact ⟨by rw [HKO.out]; rfl, rfl⟩
  by_cases k3 : k = 4
  · have HKO : As (leastOf k = 330) := ⟨by subst k3; decide⟩
    subst k3
    go_enter Try.func102, Try.ntmps102
    go_wp2
    go_ret
    exact ⟨by rw [HKO.out]; rfl, rfl⟩
  have HKO : As (leastOf k = 0) := ⟨by unfold leastOf; rw [if_neg k0, if_neg k1, if_neg k2, if_neg k3]⟩
  go_enter Try.func102, Try.ntmps102
  go_wp2
  go_ret
  exact ⟨by rw [HKO.out]; rfl, rfl⟩
set_option maxHeartbeats 1000000 in
theorem dust_any (x : Int) (v : Value) (L : List UInt8) {b : Bool} (hb : decide (x < leastOf (kindOf L)) = b) (w : World) (hv : RdB w v L) :
    Calls Try.prog 94 #[.agg #[.int .u64 x, v]] w fun e w' => e = .returned (.bool b) ∧ Below w.heap.size w w' := by
  have HV := As.mk hv
  obtain ⟨A, c, rfl, -⟩ := RdB.form hv
  have HQ := As.mk hb
  clear hv hb
  have hcells : As (∀ o : Obj, RdB (w.alloc o).drew (.slice A L.length c) L) := ⟨fun o => RdS.drew (rdb_alloc o HV.out)⟩
  go_enter Try.func94, Try.ntmps94
  go_upto_region 1 with (fail)
  refine wp_region_held_drew (S := (fun W : World => W.cell? ⟨w.heap.size, 0, none⟩ = some (.int .u64 x) ∧ W.cell? ⟨w.heap.size, 1, none⟩ = some (.slice A L.length c))) (by kernel_rfl) ?_ (fun hHeld => ?_)
  · exact ⟨by simp, by simp⟩
  refine wpAnyH_take (i := 0) (oi := ?_) (v := ?_) (by simp only [List.getElem?_toArray, List.getElem?_cons_zero, List.getElem?_cons_succ]; rfl) (by kernel_rfl) (by kernel_rfl) (by kernel_rfl) (by exact fun _ _ _ h => h) (Or.inl ⟨by rfl, ?_⟩) (by assumption) ?_
  rotate_left
  · (intro w hSw; (try dsimp only at hSw); go_simp; first | done | with_reducible rfl)
  try simp only [Act.put, List.setIfInBounds_toArray, List.set_cons_zero, List.set_cons_succ]
  refine wpAnyH_take (i := 1) (oi := ?_) (v := ?_) (by simp only [List.getElem?_toArray, List.getElem?_cons_zero, List.getElem?_cons_succ]; rfl) (by kernel_rfl) (by kernel_rfl) (by kernel_rfl) (by exact fun _ _ _ h => h) (Or.inl ⟨by rfl, ?_⟩) (by assumption) ?_
  rotate_left
  · (intro w hSw; (try dsimp only at hSw); go_simp; first | done | with_reducible rfl)
  try simp only [Act.put, List.setIfInBounds_toArray, List.set_cons_zero, List.set_cons_succ]
  refine wpAnyH_take (i := 2) (oi := ?_) (v := ?_) (by simp only [List.getElem?_toArray, List.getElem?_cons_zero, List.getElem?_cons_succ]; rfl) (by kernel_rfl) (by kernel_rfl) (by kernel_rfl) (by exact fun _ _ _ h => h) (Or.inl ⟨by rfl, ?_⟩) (by assumption) ?_
  rotate_left
  · (intro w hSw; (try dsimp only at hSw); go_simp; first | done | with_reducible rfl)
  try simp only [Act.put, List.setIfInBounds_toArray, List.set_cons_zero, List.set_cons_succ]
  refine wpAnyH_take (i := 3) (oi := ?_) (v := ?_) (by simp only [List.getElem?_toArray, List.getElem?_cons_zero, List.getElem?_cons_succ]; rfl) (by kernel_rfl) (by kernel_rfl) (by kernel_rfl) (by exact fun _ _ _ h => h) (Or.inl ⟨by rfl, ?_⟩) (by assumption) ?_
  rotate_left
  · (intro w hSw; (try dsimp only at hSw); go_simp; first | done | with_reducible rfl)
  try simp only [Act.put, List.setIfInBounds_toArray, List.set_cons_zero, List.set_cons_succ]
  refine wpAnyH_ready (rs := [4]) (by kernel_rfl) (by simp) ?_
  refine AllReadyH.cons (o := ?_) (by simp only [List.getElem?_toArray, List.getElem?_cons_zero, List.getElem?_cons_succ]; rfl) (fun K hK => ?_) ?_
  · go_simp
    refine (kind_any _ L _ (hcells.out _)).mono ?_
    rintro e w4 ⟨rfl, hb⟩
    have HB := As.mk hb
    clear hb
    dsimp only
    refine hK.out _ _ ?_ (fun hHeld2 => ?_)
    · first | exact ⟨cell_of_below HB.out hHeld.1, cell_of_below HB.out hHeld.2⟩ | exact hHeld
    clear hK K hHeld
    have hHeld := hHeld2
    clear hHeld2
    try simp only [Act.put, List.setIfInBounds_toArray, List.set_cons_zero, List.set_cons_succ]
    refine wpAnyH_ready (rs := [5]) (by kernel_rfl) (by simp) ?_
    refine AllReadyH.cons (o := ?_) (by simp only [List.getElem?_toArray, List.getElem?_cons_zero, List.getElem?_cons_succ]; rfl) (fun K hK => ?_) ?_
    · go_simp
      refine (least_any _ _).mono ?_
      rintro e w5 ⟨rfl, rfl⟩
      dsimp only
      refine hK.out _ _ ?_ (fun hHeld2 => ?_)
      · first | exact ⟨cell_of_below HB.out hHeld.1, cell_of_below HB.out hHeld.2⟩ | exact hHeld
      clear hK K hHeld
      have hHeld := hHeld2
      clear hHeld2
      try simp only [Act.put, List.setIfInBounds_toArray, List.set_cons_zero, List.set_cons_succ]
      refine wpAnyH_take (i := 6) (oi := ?_) (v := ?_) (by simp only [List.getElem?_toArray, List.getElem?_cons_zero, List.getElem?_cons_succ]; rfl) (by kernel_rfl) (by kernel_rfl) (by kernel_rfl) (by exact fun _ _ _ h => h) (Or.inl ⟨by rfl, ?_⟩) (by assumption) ?_
      rotate_left
      · (intro w hSw; (try dsimp only at hSw); go_simp; first | done | with_reducible rfl)
      try simp only [Act.put, List.setIfInBounds_toArray, List.set_cons_zero, List.set_cons_succ]
      refine wpAnyH_take (i := 7) (oi := ?_) (v := ?_) (by simp only [List.getElem?_toArray, List.getElem?_cons_zero, List.getElem?_cons_succ]; rfl) (by kernel_rfl) (by kernel_rfl) (by kernel_rfl) (by exact fun _ _ _ h => h) (Or.inl ⟨by rfl, ?_⟩) (by assumption) ?_
      rotate_left
      · (intro w hSw; (try dsimp only at hSw); go_simp; first | done | with_reducible rfl)
      try simp only [Act.put, List.setIfInBounds_toArray, List.set_cons_zero, List.set_cons_succ]
      refine wpAnyH_done (by kernel_rfl) ?_ _
      go_wp2
      go_ret
      exact ⟨by rw [← HQ.out]; rfl, (((Below.refl _ _).alloc (Nat.le_refl _) _).drew).trans (HB.out.mono (by simp))⟩
    exact AllReadyH.nil
  exact AllReadyH.nil
theorem kind_to (v : Value) (L : List UInt8) (w : World) {k : Int} (hq : kindOf L = k) (hv : RdB w v L) :
    Calls Try.prog 92 #[v] w fun e w' => e = .returned (.int .i64 k) ∧ Below w.heap.size w w' := by
  rw [← hq]; exact kind_any v L w hv
theorem least_to (k : Int) (w : World) {r : Int} (hq : leastOf k = r) : Calls Try.prog 102 #[.int .i64 k] w fun e w' => e = .returned (.int .u64 r) ∧ w = w' := by
  rw [← hq]; exact least_any k w
theorem ok_yes (x : Int) (w : World) (h : x ≤ 2100000000000000) : Calls Try.prog 93 #[.int .u64 x] w fun e w' => e = .returned (.bool true) ∧ w = w' := by
  go_enter Try.func93, Try.ntmps93
  go_wp2
  go_ret
  exact ⟨by simp [h], rfl⟩
theorem ok_no (x : Int) (w : World) (h : 2100000000000000 < x) : Calls Try.prog 93 #[.int .u64 x] w fun e w' => e = .returned (.bool false) ∧ w = w' := by
  go_enter Try.func93, Try.ntmps93
  go_wp2
  go_ret
  exact ⟨by simp; omega, rfl⟩
/-- What a list comes to. -/
def tot (l : List Nat) : Nat × Bool := if l.sum ≤ 2100000000000000 then (l.sum, true) else (0, false)
theorem take_sum (l : List Nat) (i : Nat) (h : i < l.length) : (l.take (i + 1)).sum = (l.take i).sum + l.getD i 0 := by
  rw [List.take_succ_eq_append_getElem h, List.sum_append, List.getD_eq_getElem?_getD, List.getElem?_eq_getElem h]
  simp
theorem take_sum_le (l : List Nat) (i : Nat) : (l.take i).sum ≤ l.sum := by
  conv => rhs; rw [← List.take_append_drop i l, List.sum_append]
  omega
set_option maxHeartbeats 1000000 in
set_option maxRecDepth 100000 in
theorem sum_any (v : Value) (l : List Nat) (w : World) (hr : RdU w v l) (hl : l.length ≤ 17592186044416) (hb : ∀ n ∈ l, n < 18446744073709551616) :
    Calls Try.prog 68 #[v] w fun e w' => e = .returned (.tuple #[.int .u64 ((tot l).1 : Int), .bool (tot l).2]) ∧ w = w' := by
  obtain ⟨A, c, rfl, h1, h2, h3⟩ := RdU.form hr
  have HR := As.mk hr
  have hl' : (l.length : Int) ≤ 17592186044416 := by omega
  have HBD := As.mk hb
  clear hr hl hb h2 h3 h1
  go_enter Try.func68, Try.ntmps68
  go_wp2
  go_loop [4, 9] (fun v4 v9 => ∃ i : Nat, (i : Int) ≤ l.length ∧ v9 = .int .i64 (i : Int) ∧ v4 = .int .u64 ((l.take i).sum : Int) ∧ ((l.take i).sum : Int) ≤ 2100000000000000) (fun _ v9 => (l.length - intOf v9).toNat)
  case atStart => exact ⟨0, by omega, rfl, rfl, by simp⟩
  case round =>
    obtain ⟨i, hi, rfl, rfl, hs⟩ := hrel
    by_cases hlt : (i : Int) < l.length
    · have hlt' : i < l.length := by omega
      obtain ⟨ad, hA, hc⟩ := RdU.at HR.out i hlt'
      subst hA
      have hts := As.mk (take_sum l i hlt')
      have hle := As.mk (take_sum_le l (i + 1))
      have hbd : l.getD i 0 < 18446744073709551616 := by
        rw [List.getD_eq_getElem?_getD, List.getElem?_eq_getElem hlt']
        exact HBD.out _ (List.getElem_mem hlt')
      obtain ⟨x, hx⟩ : ∃ x, x = l.getD i 0 := ⟨_, rfl⟩
      rw [← hx] at hc hbd
      have HX := As.mk hx
      have hbd' : (x : Int) ≤ 18446744073709551615 := by omega
      clear hx hbd
      by_cases c1 : (x : Int) ≤ 2100000000000000
      · by_cases c2 : ((l.take i).sum : Int) + x ≤ 2100000000000000
        · go_wp2_with (go_at_call 93; (with_reducible refine (ok_yes _ _ (by omega)).mono ?_); rintro e w' ⟨rfl, rfl⟩)
          go_round
          case rel => exact ⟨i + 1, by omega, by go_num, by rw [hts.out, ← HX.out]; go_num, by rw [hts.out, ← HX.out]; omega⟩
          case measure => simp [intOf]; omega
        · have HE : As (tot l = (0, false)) := ⟨by have := hts.out; have := hle.out; have := HX.out; unfold tot; rw [if_neg (by omega)]⟩
          go_wp2_with (first | (go_at_call 93; (with_reducible refine (ok_yes _ _ (by omega)).mono ?_); rintro e w' ⟨rfl, rfl⟩) | (go_at_call 93; (with_reducible refine (ok_no _ _ (by omega)).mono ?_); rintro e w' ⟨rfl, rfl⟩))
          go_ret2
          rw [HE.out]
          exact ⟨rfl, rfl⟩
      · have HE : As (tot l = (0, false)) := ⟨by have := hts.out; have := hle.out; have := HX.out; unfold tot; rw [if_neg (by omega)]⟩
        go_wp2_with (go_at_call 93; (with_reducible refine (ok_no _ _ (by omega)).mono ?_); rintro e w' ⟨rfl, rfl⟩)
        go_ret2
        rw [HE.out]
        exact ⟨rfl, rfl⟩
    · have hi' : i = l.length := by omega
      have HE : As (tot l = ((l.take i).sum, true)) := ⟨by rw [hi', List.take_length]; unfold tot; rw [if_pos (by rw [hi', List.take_length] at hs; omega)]⟩
      clear hi'
      go_wp2
      go_ret2
      rw [HE.out]
      exact ⟨rfl, rfl⟩
end Go.Proofs.Ytfggkljgfadacaa.W
namespace Go.Proofs.Ytfggkljgfadacaa.W
open Go.RowKit Go.Proofs.Ytfggkljgfadacaa.B Go.Proofs

theorem info23 : (Try.prog.info? 23).map (fun i => (i.zero, i.size, i.bytes)) = some (some (.int .u64 0), 1, 8) := by kernel_rfl
theorem info3 : (Try.prog.info? 3).map (fun i => (i.zero, i.size, i.bytes)) = some (some (.int .i64 0), 1, 8) := by kernel_rfl
theorem TxC.outs {w : World} {v0 v1 v2 v3 : Value} {t : LTx} (h : TxC w [v0, v1, v2, v3] t) : RdOuts w v2 t.outs := by
  obtain ⟨iv, ov, he, h1, h2, _⟩ := h
  injection he with e0 he
  injection he with e1 he
  injection he with e2 he
  subst e2
  exact h2
theorem TxC.ins {w : World} {v0 v1 v2 v3 : Value} {t : LTx} (h : TxC w [v0, v1, v2, v3] t) : RdIns w v1 t.ins := by
  obtain ⟨iv, ov, he, h1, h2, _⟩ := h
  injection he with e0 he
  injection he with e1 he
  subst e1
  exact h1
def kindsT (ys : List LOut) : Int := if ys.any (fun y => kindOf y.script == 0) = true then 6 else if 1 < ys.countP (fun y => kindOf y.script == 5) then 7 else 0
theorem countP_step {α : Type} (p : α → Bool) {xs : List α} {i : Nat} {x : α} (h : xs[i]? = some x) : (xs.take (i + 1)).countP p = (xs.take i).countP p + (if p x = true then 1 else 0) := by
  rw [List.take_add_one, h, List.countP_append]
  simp [List.countP_cons]
set_option maxHeartbeats 1000000 in
set_option maxRecDepth 100000 in
theorem kinds_any (cs : List Value) (t : LTx) (w : World) (hr : TxC w cs t) :
    Calls Try.prog 67 #[.agg cs.toArray] w fun e w' => e = .returned (.int .i64 (kindsT t.outs)) ∧ Below w.heap.size w w' := by
  obtain ⟨AI, cI, AO, cO, rfl⟩ := hr.four
  have HR := As.mk hr.outs
  obtain ⟨ys, hys⟩ : ∃ ys, ys = t.outs := ⟨_, rfl⟩
  rw [← hys] at HR ⊢
  have hm : (ys.length : Int) ≤ 9223372036854775807 := by have := HR.out.len; unfold maxLen at this; omega
  clear hr hys
  obtain ⟨V, hV⟩ : ∃ V : Nat, t.ver = V := ⟨_, rfl⟩
  obtain ⟨L, hL⟩ : ∃ V : Nat, t.lock = V := ⟨_, rfl⟩
  obtain ⟨NI, hNI⟩ : ∃ V : Nat, t.ins.length = V := ⟨_, rfl⟩
  rw [hV, hL, hNI]
  clear hV hL hNI
  have HW := As.mk (below_al w (.cells #[.int .u32 (V : Int), .slice AI NI cI, .slice AO ys.length cO, .int .u32 (L : Int)] 51))
  go_enter Try.func67, Try.ntmps67
  go_wp2
  go_loopw [3, 9] (fun v3 v9 wr => ∃ i d : Nat, v9 = .int .i64 (i : Int) ∧ v3 = .int .i64 (d : Int) ∧ (i : Int) ≤ ys.length ∧ (d : Int) ≤ i ∧ As (Below w.heap.size w wr) ∧ As (d = (ys.take i).countP (fun y => kindOf y.script == 5) ∧ ∀ y ∈ ys.take i, kindOf y.script ≠ 0)) (fun _ v9 _ => ys.length - (intOf v9).toNat)
  case atStart => exact ⟨0, 0, rfl, rfl, by omega, by omega, HW, ⟨rfl, fun b h => by simp at h⟩⟩
  case round =>
    obtain ⟨i, d, rfl, rfl, hi, hd, HB, HJ⟩ := hrel
    by_cases hlt : (i : Int) < ys.length
    · obtain ⟨g, o, x, A1, c1, rfl, HK, h0, h1, HS, HV⟩ := RdOuts.at (HR.out.below OutC.stable HB.out) i (by omega)
      have HS2 := As.mk (HS.out.below (below_al wr (.cells #[.int .u64 (x.value : Int), .slice A1 x.script.length c1] 57)))
      have HB2 := As.mk (HB.out.trans ((below_al wr (.cells #[.int .u64 (x.value : Int), .slice A1 x.script.length c1] 57)).mono HB.out.size))
      obtain ⟨K, hK⟩ : ∃ K, kindOf x.script = K := ⟨_, rfl⟩
      have HKK := As.mk hK
      clear hK
      by_cases k0 : K = 0
      · subst k0
        have HF : As (kindsT ys = 6) := ⟨by unfold kindsT; rw [if_pos (List.any_eq_true.2 ⟨x, List.mem_of_getElem? HK.out, by rw [HKK.out]; rfl⟩)]⟩
        go_wp2_with (go_at_call 92; (with_reducible refine (kind_to _ _ _ HKK.out HS2.out).mono ?_); rintro e w3 ⟨rfl, hb⟩; have HB3 := As.mk (HB2.out.trans (hb.mono HB2.out.size)); clear hb)
        go_ret
        rw [HF.out]
        exact ⟨rfl, HB3.out⟩
      · have e0 : (K == 0) = false := beq_eq_false_iff_ne.2 k0
        have HJ0 : As (∀ y ∈ ys.take (i + 1), kindOf y.script ≠ 0) := ⟨fun y hy => by
          rw [List.take_add_one, HK.out] at hy
          rcases List.mem_append.1 hy with h | h
          · exact HJ.out.2 y h
          · simp at h; subst h; rw [HKK.out]; exact beq_eq_false_iff_ne.1 e0⟩
        clear k0
        by_cases k5 : K = 5
        · subst k5
          have HJ5 : As (d + 1 = (ys.take (i + 1)).countP (fun y => kindOf y.script == 5)) := ⟨by rw [countP_step _ HK.out, if_pos (by rw [HKK.out]; rfl), ← HJ.out.1]⟩
          go_wp2_with (go_at_call 92; (with_reducible refine (kind_to _ _ _ HKK.out HS2.out).mono ?_); rintro e w3 ⟨rfl, hb⟩; have HB3 := As.mk (HB2.out.trans (hb.mono HB2.out.size)); clear hb)
          go_roundw
          case rel => exact ⟨i + 1, d + 1, by go_num, by go_num, by omega, by omega, HB3, ⟨HJ5.out, HJ0.out⟩⟩
          case measure => simp [intOf]; omega
        · have e5 : (K == 5) = false := beq_eq_false_iff_ne.2 k5
          have HJ5 : As (d = (ys.take (i + 1)).countP (fun y => kindOf y.script == 5)) := ⟨by rw [countP_step _ HK.out, if_neg (by rw [HKK.out, e5]; decide), ← HJ.out.1]; rfl⟩
          clear k5
          go_wp2_with (go_at_call 92; (with_reducible refine (kind_to _ _ _ HKK.out HS2.out).mono ?_); rintro e w3 ⟨rfl, hb⟩; have HB3 := As.mk (HB2.out.trans (hb.mono HB2.out.size)); clear hb)
          go_roundw
          case rel => exact ⟨i + 1, d, by go_num, rfl, by omega, by omega, HB3, ⟨HJ5.out, HJ0.out⟩⟩
          case measure => simp [intOf]; omega
    · have hin : i = ys.length := by omega
      have HA : As (¬ ys.any (fun y => kindOf y.script == 0) = true ∧ d = ys.countP (fun y => kindOf y.script == 5)) := ⟨by
        have h := HJ.out
        rw [hin, List.take_length] at h
        refine ⟨fun ha => ?_, h.1⟩
        obtain ⟨y, hy, he⟩ := List.any_eq_true.1 ha
        exact h.2 y hy (beq_iff_eq.1 he)⟩
      clear hin
      by_cases h1 : (1 : Int) < d
      · have HF : As (kindsT ys = 7) := ⟨by unfold kindsT; rw [if_neg HA.out.1, if_pos (by rw [← HA.out.2]; omega)]⟩
        go_wp2
        go_ret
        rw [HF.out]
        exact ⟨rfl, HB.out⟩
      · have HF : As (kindsT ys = 0) := ⟨by unfold kindsT; rw [if_neg HA.out.1, if_neg (by rw [← HA.out.2]; omega)]⟩
        go_wp2
        go_ret
        rw [HF.out]
        exact ⟨rfl, HB.out⟩
def valuesT (ys : List LOut) : List Nat := ys.map LOut.value
theorem map_step {α β : Type} (f : α → β) {xs : List α} {i : Nat} {x : α} (h : xs[i]? = some x) : (xs.take (i + 1)).map f = (xs.take i).map f ++ [f x] := by
  rw [List.take_add_one, h]
  simp
set_option maxHeartbeats 1000000 in
set_option maxRecDepth 100000 in
theorem values_any (cs : List Value) (t : LTx) (w : World) (hr : TxC w cs t) (hn : t.outs.length ≤ 1000) :
    Calls Try.prog 69 #[.agg cs.toArray] w fun e w' => ∃ r, e = .returned r ∧ RdU w' r (valuesT t.outs) ∧ Below w.heap.size w w' := by
  obtain ⟨AI, cI, AO, cO, rfl⟩ := hr.four
  have HR := As.mk hr.outs
  obtain ⟨ys, hys⟩ : ∃ ys, ys = t.outs := ⟨_, rfl⟩
  rw [← hys] at HR hn ⊢
  have hm : (ys.length : Int) ≤ 1000 := by omega
  clear hr hys hn
  obtain ⟨V, hV⟩ : ∃ V : Nat, t.ver = V := ⟨_, rfl⟩
  obtain ⟨L, hL⟩ : ∃ V : Nat, t.lock = V := ⟨_, rfl⟩
  obtain ⟨NI, hNI⟩ : ∃ V : Nat, t.ins.length = V := ⟨_, rfl⟩
  rw [hV, hL, hNI]
  clear hV hL hNI
  have HW := As.mk (below_al w (.cells #[.int .u32 (V : Int), .slice AI NI cI, .slice AO ys.length cO, .int .u32 (L : Int)] 51))
  go_enter Try.func69, Try.ntmps69
  go_wp2
  go_loopw [3, 9] (fun v3 v9 wr => ∃ i : Nat, v9 = .int .i64 (i : Int) ∧ (i : Int) ≤ ys.length ∧ As (OwU wr w.heap.size 23 v3 (valuesT (ys.take i))) ∧ As (Below w.heap.size w wr)) (fun _ v9 _ => ys.length - (intOf v9).toNat)
  case atStart => exact ⟨0, rfl, by omega, ⟨OwS.nil _ _ _ _⟩, HW⟩
  case round =>
    obtain ⟨i, rfl, hi, HO, HB⟩ := hrel
    by_cases hlt : (i : Int) < ys.length
    · obtain ⟨g, o, x, A1, c1, rfl, HK, h0, h1, HS, HV⟩ := RdOuts.at (HR.out.below OutC.stable HB.out) i (by omega)
      have HBX := As.mk (HB.out.trans ((below_al wr (.cells #[.int .u64 (x.value : Int), .slice A1 x.script.length c1] 57)).mono HB.out.size))
      have HOX := As.mk (OwS.below HO.out (below_al wr (.cells #[.int .u64 (x.value : Int), .slice A1 x.script.length c1] 57)))
      have HLN : As ((valuesT (ys.take i)).length ≤ 1000) := ⟨by unfold valuesT; rw [List.length_map, List.length_take]; omega⟩
      have HVS := As.mk (map_step LOut.value HK.out)
      clear HO
      go_upto_region 5 with fail
      have q0 : (wr.alloc (.cells #[.int .u64 (x.value : Int), .slice A1 x.script.length c1] 57)).cell? ⟨wr.heap.size, 0, none⟩ = some (.int .u64 (x.value : Int)) := (Box.new wr #[.int .u64 (x.value : Int), .slice A1 x.script.length c1] 57).cell 0 _ rfl
      change Code.wp _ _ _ _ (wr.alloc (.cells #[.int .u64 (x.value : Int), .slice A1 x.script.length c1] 57))
      generalize wr.alloc (.cells #[.int .u64 (x.value : Int), .slice A1 x.script.length c1] 57) = W1 at q0 HBX HOX ⊢
      go_wp2_with (at_builtin; refine wpList_app (w.heap.size) rfl (.tmp 13) (.tmp 16) 78 23 (.int .u64 0) 1 8 rfl Try.underlying78 info23 rfl (by decide) (u3) (.slice (some ⟨(W1).heap.size, 0, none⟩) 1 1) rfl rfl (valuesT (ys.take i)).length ((valuesT (ys.take i)).map u64v) ?own 1 ([x.value].map u64v) ?rd (u64v_one [x.value]) ?b1 ?b2 ?b3 ?_; (case own => exact OwS.alloc HOX.out _); (case rd => exact RdU.one _ _ _ _ (by first | rfl | go_num | simp)); (case b1 => have := (HLN.out); unfold maxLen; (try simp only [List.length_append, List.length_singleton] at *); omega); (case b2 => have := (HLN.out); (try simp only [List.length_append, List.length_singleton] at *); omega); (case b3 => have := HBX.out.size; simp; omega); intro v' v'w ho hg ht; have HO2 := As.mk (show OwU v'w (w.heap.size) 23 v' ((valuesT (ys.take i)) ++ [x.value]) by unfold OwU; rw [List.length_append, List.map_append]; exact ho); have HB2 := As.mk ((HBX.out.alloc HBX.out.size _).grown hg (by have := HBX.out.size; simp; omega) (fun b hb => (HOX.out.lt b hb).1)); clear ho hg ht; clear HBX; have HBX := HB2; clear HB2)
      go_roundw
      case rel => exact ⟨i + 1, by go_num, by omega, ⟨by unfold valuesT at *; rw [HVS.out]; exact HO2.out⟩, HBX⟩
      case measure => simp [intOf]; omega
    · have hin : i = ys.length := by omega
      have HF : As (RdU wr u3 (valuesT ys)) := ⟨by have := HO.out.rd; rw [hin, List.take_length] at this; exact this⟩
      clear hin
      go_wp2
      go_ret
      exact ⟨_, rfl, HF.out, HB.out⟩
def dustB (y : LOut) : Bool := decide ((y.value : Int) < leastOf (kindOf y.script))
set_option maxHeartbeats 1000000 in
set_option maxRecDepth 100000 in
theorem dusts_any (cs : List Value) (t : LTx) (w : World) (hr : TxC w cs t) (hn : t.outs.length ≤ 1000) :
    Calls Try.prog 70 #[.agg cs.toArray] w fun e w' => ∃ A c, e = .returned (.slice A (t.outs.countP dustB) c) ∧ Below w.heap.size w w' := by
  obtain ⟨AI, cI, AO, cO, rfl⟩ := hr.four
  have HR := As.mk hr.outs
  obtain ⟨ys, hys⟩ : ∃ ys, ys = t.outs := ⟨_, rfl⟩
  rw [← hys] at HR hn ⊢
  have hm : (ys.length : Int) ≤ 1000 := by omega
  clear hr hys hn
  obtain ⟨V, hV⟩ : ∃ V : Nat, t.ver = V := ⟨_, rfl⟩
  obtain ⟨L, hL⟩ : ∃ V : Nat, t.lock = V := ⟨_, rfl⟩
  obtain ⟨NI, hNI⟩ : ∃ V : Nat, t.ins.length = V := ⟨_, rfl⟩
  rw [hV, hL, hNI]
  clear hV hL hNI
  have HW := As.mk (below_al w (.cells #[.int .u32 (V : Int), .slice AI NI cI, .slice AO ys.length cO, .int .u32 (L : Int)] 51))
  go_enter Try.func70, Try.ntmps70
  go_wp2
  go_loopw [3, 9] (fun v3 v9 wr => ∃ (i : Nat) (us : List Value), v9 = .int .i64 (i : Int) ∧ (i : Int) ≤ ys.length ∧ As (OwS wr w.heap.size 3 1 v3 ((ys.take i).countP dustB) us) ∧ As (Below w.heap.size w wr)) (fun _ v9 _ => ys.length - (intOf v9).toNat)
  case atStart => exact ⟨0, [], rfl, by omega, ⟨OwS.nil _ _ _ _⟩, HW⟩
  case round =>
    obtain ⟨i, us, rfl, hi, HO, HB⟩ := hrel
    by_cases hlt : (i : Int) < ys.length
    · obtain ⟨g, o, x, A1, c1, rfl, HK, h0, h1, HS, HV⟩ := RdOuts.at (HR.out.below OutC.stable HB.out) i (by omega)
      have HBX := As.mk (HB.out.trans ((below_al wr (.cells #[.int .u64 (x.value : Int), .slice A1 x.script.length c1] 57)).mono HB.out.size))
      have HS2 := As.mk (HS.out.below (below_al wr (.cells #[.int .u64 (x.value : Int), .slice A1 x.script.length c1] 57)))
      have HOX := As.mk (OwS.below HO.out (below_al wr (.cells #[.int .u64 (x.value : Int), .slice A1 x.script.length c1] 57)))
      have HLN : As ((ys.take i).countP dustB ≤ 1000) := ⟨by have := List.countP_le_length (p := dustB) (l := ys.take i); rw [List.length_take] at this; omega⟩
      have HVS := As.mk (countP_step dustB HK.out)
      obtain ⟨D, hD⟩ : ∃ D, dustB x = D := ⟨_, rfl⟩
      have HDD : As (decide ((x.value : Int) < leastOf (kindOf x.script)) = D) := ⟨hD⟩
      have HVD := As.mk hD
      clear HO hD
      cases D with
      | true =>
        go_wp2_with (first | (go_at_call 94; (with_reducible refine (dust_any _ _ _ HDD.out _ HS2.out).mono ?_); rintro e w3 ⟨rfl, hb⟩; have HB3 := As.mk (HBX.out.trans (hb.mono HBX.out.size)); have HO3 := As.mk (OwS.below HOX.out hb); clear hb) | (at_builtin; go_loud (refine wpList_app (w.heap.size) rfl (.tmp 16) (.tmp 18) 28 3 (.int .i64 0) 1 8 rfl Try.underlying28 info3 rfl (by decide) u3 (.slice (some ⟨w3.heap.size, 0, none⟩) 1 1) rfl rfl ((ys.take i).countP dustB) us ?own 1 [.int .i64 (i : Int)] ?rd (fun u hu => by simp at hu; subst hu; rfl) ?b1 ?b2 ?b3 ?_; (case own => exact OwS.alloc HO3.out _); (case rd => exact (OwS.lit w3 w3.heap.size 3 1 1 #[.int .i64 (i : Int)] (Nat.le_refl _) (by decide) rfl).rd); (case b1 => have := HLN.out; unfold maxLen; omega); (case b2 => have := HLN.out; omega); (case b3 => have := HB3.out.size; simp; omega); intro v' v'w ho hg ht; have HO4 := As.mk ho; have HB4 := As.mk ((HB3.out.alloc HB3.out.size _).grown hg (by have := HB3.out.size; simp; omega) (fun b hb => (HO3.out.lt b hb).1)); clear ho hg ht)))
        go_roundw
        case rel => exact ⟨i + 1, us ++ [.int .i64 (i : Int)], by go_num, by omega, ⟨by rw [HVS.out, if_pos HVD.out]; exact HO4.out⟩, HB4⟩
        case measure => simp [intOf]; omega
      | false =>
        go_wp2_with (go_at_call 94; (with_reducible refine (dust_any _ _ _ HDD.out _ HS2.out).mono ?_); rintro e w3 ⟨rfl, hb⟩; have HB3 := As.mk (HBX.out.trans (hb.mono HBX.out.size)); have HO3 := As.mk (OwS.below HOX.out hb); clear hb)
        go_roundw
        case rel => exact ⟨i + 1, us, by go_num, by omega, ⟨by rw [HVS.out, if_neg (by rw [HVD.out]; decide)]; exact HO3.out⟩, HB3⟩
        case measure => simp [intOf]; omega
    · have hin : i = ys.length := by omega
      have HF : As (∃ A c, u3 = Value.slice A (ys.countP dustB) c) := ⟨by
        have := HO.out.rd
        rw [hin, List.take_length] at this
        obtain ⟨_, A, c, h, _⟩ := this
        exact ⟨A, c, h⟩⟩
      clear hin
      obtain ⟨A, c, rfl⟩ := HF.out
      go_wp2
      go_ret
      exact ⟨⟨A, c, rfl⟩, HB.out⟩
end Go.Proofs.Ytfggkljgfadacaa.W
