/- clas.Least, clas.Dust, what awake of layer 6 answers. -/
import Derived.Test.YtfbfdmgnicgalaaC1
import Derived.Deep.RegionHeld3
import Derived.Deep.DeepCutAuto
import Derived.Deep.CutBlock
import Derived.Lib.SlBytesConst
set_option linter.unusedVariables false
set_option linter.unusedSimpArgs false
namespace Go.Proofs.Ytfbfdmgnicgalaa.W
open Go.RowKit Go.Proofs.Ytfbfdmgnicgalaa.B Go.Proofs

def leastOf (k : Int) : Int := if k = 1 then 240 else if k = 2 then 294 else if k = 3 then 330 else if k = 4 then 330 else 0
theorem least_any (k : Int) (w : World) : Calls Try.prog 30 #[.int .i64 k] w fun e w' => e = .returned (.int .u64 (leastOf k)) ∧ w = w' := by
  by_cases k0 : k = 1
  · have HKO : As (leastOf k = 240) := ⟨by subst k0; decide⟩
    subst k0
    go_enter Try.func30, Try.ntmps30
    go_wp2
    go_ret
    exact ⟨by rw [HKO.out]; rfl, rfl⟩
  by_cases k1 : k = 2
  · have HKO : As (leastOf k = 294) := ⟨by subst k1; decide⟩
    subst k1
    go_enter Try.func30, Try.ntmps30
    go_wp2
    go_ret
    exact ⟨by rw [HKO.out]; rfl, rfl⟩
  by_cases k2 : k = 3
  · have HKO : As (leastOf k = 330) := ⟨by subst k2; decide⟩
    subst k2
    go_enter Try.func30, Try.ntmps30
    go_wp2
    go_ret
    exact ⟨by rw [HKO.out]; rfl, rfl⟩
  by_cases k3 : k = 4
  · have HKO : As (leastOf k = 330) := ⟨by subst k3; decide⟩
    subst k3
    go_enter Try.func30, Try.ntmps30
    go_wp2
    go_ret
    exact ⟨by rw [HKO.out]; rfl, rfl⟩
  have HKO : As (leastOf k = 0) := ⟨by unfold leastOf; rw [if_neg k0, if_neg k1, if_neg k2, if_neg k3]⟩
  go_enter Try.func30, Try.ntmps30
  go_wp2
  go_ret
  exact ⟨by rw [HKO.out]; rfl, rfl⟩
set_option maxHeartbeats 1000000 in
theorem dust_any (x : Int) (v : Value) (L : List UInt8) {b : Bool} (hb : decide (x < leastOf (kindOf L)) = b) (w : World) (hv : RdB w v L) :
    Calls Try.prog 31 #[.agg #[.int .u64 x, v]] w fun e w' => e = .returned (.bool b) ∧ Below w.heap.size w w' := by
  have HV := As.mk hv
  obtain ⟨A, c, rfl, -⟩ := RdB.form hv
  have HQ := As.mk hb
  clear hv hb
  have hcells : As (∀ o : Obj, RdB (w.alloc o).drew (.slice A L.length c) L) := ⟨fun o => RdS.drew (rdb_alloc o HV.out)⟩
  go_enter Try.func31, Try.ntmps31
  go_upto_region 1 with (fail)
  refine wp_region_held_drew (S := (fun W : World => W.cell? ⟨w.heap.size, 0, none⟩ = some (.int .u64 x) ∧ W.cell? ⟨w.heap.size, 1, none⟩ = some (.slice A L.length c))) (by kernel_rfl) ?_ (fun hHeld => ?_)
  · exact ⟨by simp, by simp⟩
  refine wpAnyH_take (i := 0) (oi := ?_) (v := ?_) (by simp only [List.getElem?_toArray, List.getElem?_cons_zero, List.getElem?_cons_succ]; rfl) (by kernel_rfl) (by kernel_rfl) (by kernel_rfl) (by exact fun _ _ _ h => h) (Or.inl ⟨by rfl, ?_⟩) (by assumption) ?_
  rotate_left
  · (intro w hSw; (try dsimp only at hSw); go_simp; first | done | with_reducible rfl)
  try simp only [Act.put, List.setIfInBounds_toArray, List.set_cons_zero, List.set_cons_succ]
  refine wpAnyH_take (i := 1) (oi := ?_) (v := ?_) (by simp only [List.getElem?_toArray, List.getElem?_cons_zero, List.getElem?_cons_succ]; rfl) (by kernel_rfl) (by kernel_rfl) (by kernel_rfl) (by exact fun _ _ _ h => h) (Or.inl ⟨by rfl, ?_⟩) (by assumption) ?_
  rotate_left
  · (intro w hSw; (try dsimp only at hSw); go_simp; first | done | with_reducible rfl)
  try simp only [Act.put, List.setIfInBounds_toArray, List.set_cons_zero, List.set_cons_succ]
  refine wpAnyH_take (i := 2) (oi := ?_) (v := ?_) (by simp only [List.getElem?_toArray, List.getElem?_cons_zero, List.getElem?_cons_succ]; rfl) (by kernel_rfl) (by kernel_rfl) (by kernel_rfl) (by exact fun _ _ _ h => h) (Or.inl ⟨by rfl, ?_⟩) (by assumption) ?_
  rotate_left
  · (intro w hSw; (try dsimp only at hSw); go_simp; first | done | with_reducible rfl)
  try simp only [Act.put, List.setIfInBounds_toArray, List.set_cons_zero, List.set_cons_succ]
  refine wpAnyH_take (i := 3) (oi := ?_) (v := ?_) (by simp only [List.getElem?_toArray, List.getElem?_cons_zero, List.getElem?_cons_succ]; rfl) (by kernel_rfl) (by kernel_rfl) (by kernel_rfl) (by exact fun _ _ _ h => h) (Or.inl ⟨by rfl, ?_⟩) (by assumption) ?_
  rotate_left
  · (intro w hSw; (try dsimp only at hSw); go_simp; first | done | with_reducible rfl)
  try simp only [Act.put, List.setIfInBounds_toArray, List.set_cons_zero, List.set_cons_succ]
  refine wpAnyH_ready (rs := [4]) (by kernel_rfl) (by simp) ?_
  refine AllReadyH.cons (o := ?_) (by simp only [List.getElem?_toArray, List.getElem?_cons_zero, List.getElem?_cons_succ]; rfl) (fun K hK => ?_) ?_
  · go_simp
    refine (kind_any _ L _ (hcells.out _)).mono ?_
    rintro e w4 ⟨rfl, hb⟩
    have HB := As.mk hb
    clear hb
    dsimp only
    refine hK.out _ _ ?_ (fun hHeld2 => ?_)
    · first | exact ⟨cell_of_below HB.out hHeld.1, cell_of_below HB.out hHeld.2⟩ | exact hHeld
    clear hK K hHeld
    have hHeld := hHeld2
    clear hHeld2
    try simp only [Act.put, List.setIfInBounds_toArray, List.set_cons_zero, List.set_cons_succ]
    refine wpAnyH_ready (rs := [5]) (by kernel_rfl) (by simp) ?_
    refine AllReadyH.cons (o := ?_) (by simp only [List.getElem?_toArray, List.getElem?_cons_zero, List.getElem?_cons_succ]; rfl) (fun K hK => ?_) ?_
    · go_simp
      refine (least_any _ _).mono ?_
      rintro e w5 ⟨rfl, rfl⟩
      dsimp only
      refine hK.out _ _ ?_ (fun hHeld2 => ?_)
      · first | exact ⟨cell_of_below HB.out hHeld.1, cell_of_below HB.out hHeld.2⟩ | exact hHeld
      clear hK K hHeld
      have hHeld := hHeld2
      clear hHeld2
      try simp only [Act.put, List.setIfInBounds_toArray, List.set_cons_zero, List.set_cons_succ]
      refine wpAnyH_take (i := 6) (oi := ?_) (v := ?_) (by simp only [List.getElem?_toArray, List.getElem?_cons_zero, List.getElem?_cons_succ]; rfl) (by kernel_rfl) (by kernel_rfl) (by kernel_rfl) (by exact fun _ _ _ h => h) (Or.inl ⟨by rfl, ?_⟩) (by assumption) ?_
      rotate_left
      · (intro w hSw; (try dsimp only at hSw); go_simp; first | done | with_reducible rfl)
      try simp only [Act.put, List.setIfInBounds_toArray, List.set_cons_zero, List.set_cons_succ]
      refine wpAnyH_take (i := 7) (oi := ?_) (v := ?_) (by simp only [List.getElem?_toArray, List.getElem?_cons_zero, List.getElem?_cons_succ]; rfl) (by kernel_rfl) (by kernel_rfl) (by kernel_rfl) (by exact fun _ _ _ h => h) (Or.inl ⟨by rfl, ?_⟩) (by assumption) ?_
      rotate_left
      · (intro w hSw; (try dsimp only at hSw); go_simp; first | done | with_reducible rfl)
      try simp only [Act.put, List.setIfInBounds_toArray, List.set_cons_zero, List.set_cons_succ]
      refine wpAnyH_done (by kernel_rfl) ?_ _
      go_wp2
      go_ret
      exact ⟨by rw [← HQ.out]; rfl, (((Below.refl _ _).alloc (Nat.le_refl _) _).drew).trans (HB.out.mono (by simp))⟩
    exact AllReadyH.nil
  exact AllReadyH.nil
theorem kind_to (v : Value) (L : List UInt8) (w : World) {k : Int} (hq : kindOf L = k) (hv : RdB w v L) :
    Calls Try.prog 17 #[v] w fun e w' => e = .returned (.int .i64 k) ∧ Below w.heap.size w w' := by
  rw [← hq]; exact kind_any v L w hv
theorem least_to (k : Int) (w : World) {r : Int} (hq : leastOf k = r) : Calls Try.prog 30 #[.int .i64 k] w fun e w' => e = .returned (.int .u64 r) ∧ w = w' := by
  rw [← hq]; exact least_any k w
theorem lit4m (w : World) : RdB (w.alloc (.cells #[.int .u8 81, .int .u8 2, .int .u8 78, .int .u8 115] 5 (4, 5))) (.slice (some ⟨w.heap.size, 0, none⟩) 4 4) [81, 2, 78, 115] := by
  refine ⟨rfl, _, 4, rfl, Nat.le_refl _, by decide, (fun h => by cases h), ?_⟩
  rintro ad had j u hu
  obtain rfl := Option.some.inj had
  rw [Addr.add_lit, Nat.zero_add]
  have h := heap_alloc_new w (.cells #[.int .u8 81, .int .u8 2, .int .u8 78, .int .u8 115] 5 (4, 5))
  simp only [World.cell?, h, Option.isSome_none, Bool.false_eq_true, if_false]
  rw [← hu, List.getElem?_toArray]
  rfl
set_option maxHeartbeats 4000000 in
set_option maxRecDepth 100000 in
theorem awake6_any (w : World) : Calls Try.prog 18 #[] w fun e w' => e = .returned (.bool true) ∧ Below w.heap.size w w' := by
  have hcv := Go.Lib.run_convert_bytes_const (P := Try.prog) w 36 5 #[.int .u8 81, .int .u8 2, .int .u8 78, .int .u8 115] 4 4 Try.underlying36 Try.underlying5
  have HX := As.mk (lit4m w)
  have HB : As (Below w.heap.size w (w.alloc (.cells #[.int .u8 81, .int .u8 2, .int .u8 78, .int .u8 115] 5 (4, 5)))) := ⟨(Below.refl _ _).alloc (Nat.le_refl _) _⟩
  have hn : ∀ W : World, RdB W (.slice none 0 0) [] := fun W => RdB.nil W
  have hN := As.mk hn
  clear hn
  go_enter Try.func18, Try.ntmps18
  go_wp2_with (first | (go_at_call 17; (with_reducible refine (kind_to _ [81, 2, 78, 115] _ (k := 1) (by decide) HX.out).mono ?_); rintro e w' ⟨rfl, hb⟩; have HX2 := As.mk (RdS.below HX.out hb); have HB2 := As.mk (HB.out.trans (hb.mono HB.out.size)); clear hb HX HB; have HX := HX2; have HB := HB2; clear HX2 HB2) | (go_at_call 17; (with_reducible refine (kind_to _ [] _ (k := 0) (by decide) (hN.out _)).mono ?_); rintro e w' ⟨rfl, hb⟩; have HX2 := As.mk (RdS.below HX.out hb); have HB2 := As.mk (HB.out.trans (hb.mono HB.out.size)); clear hb HX HB; have HX := HX2; have HB := HB2; clear HX2 HB2) | (go_at_call 30; (with_reducible refine (least_to 1 _ (r := 240) (by decide)).mono ?_); rintro e w' ⟨rfl, rfl⟩) | (go_at_call 30; (with_reducible refine (least_to 5 _ (r := 0) (by decide)).mono ?_); rintro e w' ⟨rfl, rfl⟩) | (go_at_call 31; (with_reducible refine (dust_any 239 _ [81, 2, 78, 115] (b := true) (by decide) _ HX.out).mono ?_); rintro e w' ⟨rfl, hb⟩; have HX2 := As.mk (RdS.below HX.out hb); have HB2 := As.mk (HB.out.trans (hb.mono HB.out.size)); clear hb HX HB; have HX := HX2; have HB := HB2; clear HX2 HB2) | (go_at_call 31; (with_reducible refine (dust_any 240 _ [81, 2, 78, 115] (b := false) (by decide) _ HX.out).mono ?_); rintro e w' ⟨rfl, hb⟩; have HX2 := As.mk (RdS.below HX.out hb); have HB2 := As.mk (HB.out.trans (hb.mono HB.out.size)); clear hb HX HB; have HX := HX2; have HB := HB2; clear HX2 HB2))
  go_ret
  exact ⟨rfl, HB.out⟩
end Go.Proofs.Ytfbfdmgnicgalaa.W
