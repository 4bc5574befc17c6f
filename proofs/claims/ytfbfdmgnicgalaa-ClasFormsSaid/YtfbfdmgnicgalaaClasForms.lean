/- Kinds of scripts are what they should be: the walk of ClasForms. -/
import Derived.Test.YtfbfdmgnicgalaaC2
set_option linter.unusedVariables false
set_option linter.unusedSimpArgs false
namespace Go.Proofs.Ytfbfdmgnicgalaa.W
open Go.RowKit Go.Proofs.Ytfbfdmgnicgalaa.B Go.Proofs

theorem i64_and255 (n : Int) : bits BinOp.and .i64 n 255 = n % 256 := by
  have h255 : (BitVec.ofInt 64 255).toNat = 2 ^ 8 - 1 := by decide
  have key : (BitVec.ofInt 64 n &&& BitVec.ofInt 64 255).toNat = (n % ((2 ^ 64 : Nat) : Int)).toNat % 2 ^ 8 := by
    rw [BitVec.toNat_and, BitVec.toNat_ofInt, h255, Nat.and_two_pow_sub_one_eq_mod]
  show IntKind.i64.wrap ((BitVec.ofInt 64 n &&& BitVec.ofInt 64 255).toNat : Nat) = n % 256
  rw [key, IntKind.wrap_i64]
  omega
/-- A row of the table: how it begins, how long it is, its kind. -/
structure Row7 (bs : List UInt8) (n : Nat) (k : Int) : Prop where
  small : bs.length ≤ n
  le : n ≤ 84
  kind : kindOf (bs ++ List.replicate (n - bs.length) 0) = k
theorem alloc_two (w : World) (a b : Obj) : ((w.alloc a).alloc b).heap[w.heap.size + 1]? = some b := by
  have h := heap_alloc_new (w.alloc a) b
  rw [show (w.alloc a).heap.size = w.heap.size + 1 from by simp] at h
  exact h
theorem three_cell {w : World} {B : Nat} {x y z : Value} {t : TypeId} (h : w.heap[B]? = some (.cells #[x, y, z] t (0, 0))) :
    w.cell? ⟨B, 0, none⟩ = some x ∧ w.cell? ⟨B, 1, none⟩ = some y ∧ w.cell? ⟨B, 2, none⟩ = some z := by
  refine ⟨?_, ?_, ?_⟩ <;> simp [World.cell?, h]
theorem blk_below {w w' : World} {B : Nat} {o : Obj} (h : w.heap[B]? = some o) (hb : Below w.heap.size w w') : w'.heap[B]? = some o := by
  rw [hb.block B (Array.getElem?_eq_some_iff.1 h).1]; exact h
theorem blk_lt {w : World} {B : Nat} {o : Obj} (h : w.heap[B]? = some o) : B < w.heap.size := (Array.getElem?_eq_some_iff.1 h).1
theorem row7_0 : Row7 [] 0 0 := ⟨by decide, by decide, by decide⟩
theorem row7_1 : Row7 [81, 2, 78, 115] 4 1 := ⟨by decide, by decide, by decide⟩
theorem row7_2 : Row7 [81, 2, 78, 115] 5 0 := ⟨by decide, by decide, by decide⟩
theorem row7_3 : Row7 [81, 2, 78] 3 0 := ⟨by decide, by decide, by decide⟩
theorem row7_4 : Row7 [0, 20] 22 2 := ⟨by decide, by decide, by decide⟩
theorem row7_5 : Row7 [0, 20] 21 0 := ⟨by decide, by decide, by decide⟩
theorem row7_6 : Row7 [0, 20] 34 0 := ⟨by decide, by decide, by decide⟩
theorem row7_7 : Row7 [0, 32] 34 3 := ⟨by decide, by decide, by decide⟩
theorem row7_8 : Row7 [0, 32] 33 0 := ⟨by decide, by decide, by decide⟩
theorem row7_9 : Row7 [81, 32] 34 4 := ⟨by decide, by decide, by decide⟩
theorem row7_10 : Row7 [82, 32] 34 0 := ⟨by decide, by decide, by decide⟩
theorem row7_11 : Row7 [81, 32] 35 0 := ⟨by decide, by decide, by decide⟩
theorem row7_12 : Row7 [106] 1 5 := ⟨by decide, by decide, by decide⟩
theorem row7_13 : Row7 [106] 83 5 := ⟨by decide, by decide, by decide⟩
theorem row7_14 : Row7 [106] 84 0 := ⟨by decide, by decide, by decide⟩
theorem row7_15 : Row7 [107] 20 0 := ⟨by decide, by decide, by decide⟩
set_option maxHeartbeats 4000000 in
set_option maxRecDepth 100000 in
theorem clasForms_walk (which : Int) (w : World) :
    Calls Try.prog 7 #[.int .i64 which] w fun e w' => e = .returned (.bool true) ∧ Below w.heap.size w w' := by
  have h255 := i64_and255 which
  go_enter Try.func7, Try.ntmps7
  go_upto_region 2 with (fail)
  go_cut [4] (fun v4 wc => ∃ (D : Nat) (bs : List UInt8) (n : Nat) (k : Int), v4 = .pointer (some ⟨D, 0, none⟩) ∧ As (wc.heap[D]? = some (.cells #[.string ⟨bs.toArray⟩, .int .i64 (n : Int), .int .i64 k] 34 (0, 0)) ∧ Row7 bs n k ∧ Below w.heap.size w wc ∧ w.heap.size ≤ D))
  case first =>
    have hK : which % 256 % 16 = 0 ∨ which % 256 % 16 = 1 ∨ which % 256 % 16 = 2 ∨ which % 256 % 16 = 3 ∨ which % 256 % 16 = 4 ∨ which % 256 % 16 = 5 ∨ which % 256 % 16 = 6 ∨ which % 256 % 16 = 7 ∨ which % 256 % 16 = 8 ∨ which % 256 % 16 = 9 ∨ which % 256 % 16 = 10 ∨ which % 256 % 16 = 11 ∨ which % 256 % 16 = 12 ∨ which % 256 % 16 = 13 ∨ which % 256 % 16 = 14 ∨ which % 256 % 16 = 15 := by omega
    rcases hK with hK | hK | hK | hK | hK | hK | hK | hK | hK | hK | hK | hK | hK | hK | hK | hK
    · go_wp2
      go_meet
      exact ⟨w.heap.size + 1, [], 0, 0, rfl, ⟨alloc_two _ _ _, row7_0, ((Below.refl _ _).alloc (Nat.le_refl _) _).alloc (by simp) _, by omega⟩⟩
    · go_wp2
      go_meet
      exact ⟨w.heap.size + 1, [81, 2, 78, 115], 4, 1, rfl, ⟨alloc_two _ _ _, row7_1, ((Below.refl _ _).alloc (Nat.le_refl _) _).alloc (by simp) _, by omega⟩⟩
    · go_wp2
      go_meet
      exact ⟨w.heap.size + 1, [81, 2, 78, 115], 5, 0, rfl, ⟨alloc_two _ _ _, row7_2, ((Below.refl _ _).alloc (Nat.le_refl _) _).alloc (by simp) _, by omega⟩⟩
    · go_wp2
      go_meet
      exact ⟨w.heap.size + 1, [81, 2, 78], 3, 0, rfl, ⟨alloc_two _ _ _, row7_3, ((Below.refl _ _).alloc (Nat.le_refl _) _).alloc (by simp) _, by omega⟩⟩
    · go_wp2
      go_meet
      exact ⟨w.heap.size + 1, [0, 20], 22, 2, rfl, ⟨alloc_two _ _ _, row7_4, ((Below.refl _ _).alloc (Nat.le_refl _) _).alloc (by simp) _, by omega⟩⟩
    · go_wp2
      go_meet
      exact ⟨w.heap.size + 1, [0, 20], 21, 0, rfl, ⟨alloc_two _ _ _, row7_5, ((Below.refl _ _).alloc (Nat.le_refl _) _).alloc (by simp) _, by omega⟩⟩
    · go_wp2
      go_meet
      exact ⟨w.heap.size + 1, [0, 20], 34, 0, rfl, ⟨alloc_two _ _ _, row7_6, ((Below.refl _ _).alloc (Nat.le_refl _) _).alloc (by simp) _, by omega⟩⟩
    · go_wp2
      go_meet
      exact ⟨w.heap.size + 1, [0, 32], 34, 3, rfl, ⟨alloc_two _ _ _, row7_7, ((Below.refl _ _).alloc (Nat.le_refl _) _).alloc (by simp) _, by omega⟩⟩
    · go_wp2
      go_meet
      exact ⟨w.heap.size + 1, [0, 32], 33, 0, rfl, ⟨alloc_two _ _ _, row7_8, ((Below.refl _ _).alloc (Nat.le_refl _) _).alloc (by simp) _, by omega⟩⟩
    · go_wp2
      go_meet
      exact ⟨w.heap.size + 1, [81, 32], 34, 4, rfl, ⟨alloc_two _ _ _, row7_9, ((Below.refl _ _).alloc (Nat.le_refl _) _).alloc (by simp) _, by omega⟩⟩
    · go_wp2
      go_meet
      exact ⟨w.heap.size + 1, [82, 32], 34, 0, rfl, ⟨alloc_two _ _ _, row7_10, ((Below.refl _ _).alloc (Nat.le_refl _) _).alloc (by simp) _, by omega⟩⟩
    · go_wp2
      go_meet
      exact ⟨w.heap.size + 1, [81, 32], 35, 0, rfl, ⟨alloc_two _ _ _, row7_11, ((Below.refl _ _).alloc (Nat.le_refl _) _).alloc (by simp) _, by omega⟩⟩
    · go_wp2
      go_meet
      exact ⟨w.heap.size + 1, [106], 1, 5, rfl, ⟨alloc_two _ _ _, row7_12, ((Below.refl _ _).alloc (Nat.le_refl _) _).alloc (by simp) _, by omega⟩⟩
    · go_wp2
      go_meet
      exact ⟨w.heap.size + 1, [106], 83, 5, rfl, ⟨alloc_two _ _ _, row7_13, ((Below.refl _ _).alloc (Nat.le_refl _) _).alloc (by simp) _, by omega⟩⟩
    · go_wp2
      go_meet
      exact ⟨w.heap.size + 1, [106], 84, 0, rfl, ⟨alloc_two _ _ _, row7_14, ((Below.refl _ _).alloc (Nat.le_refl _) _).alloc (by simp) _, by omega⟩⟩
    · go_wp2
      go_meet
      exact ⟨w.heap.size + 1, [107], 20, 0, rfl, ⟨alloc_two _ _ _, row7_15, ((Below.refl _ _).alloc (Nat.le_refl _) _).alloc (by simp) _, by omega⟩⟩
  case rest =>
    obtain ⟨D, bs, n, k, rfl, HC⟩ := hcut
    obtain ⟨⟨hD, hrow, hb, hDl⟩⟩ := HC
    obtain ⟨m, hm⟩ : ∃ m, m = n - bs.length := ⟨_, rfl⟩
    have hsm := hrow.small
    have hle := hrow.le
    have HKIND : As (kindOf (bs ++ List.replicate m 0) = k) := ⟨by rw [hm]; exact hrow.kind⟩
    have hwrap : IntKind.i64.wrap ((n : Int) - (bs.length : Int)) = (m : Int) := by rw [IntWalk.i64_in _ (by omega)]; omega
    have HSZ : As (bs.length + m ≤ 1048576) := ⟨by omega⟩
    have HML : As (bs.length ≤ maxLen) := ⟨by unfold maxLen; omega⟩
    obtain ⟨c0, c1, c2⟩ := three_cell hD
    have HD := As.mk hD
    have HB := As.mk hb
    obtain ⟨c, W1, hcv, hrd, hb1, hcc, hff⟩ := conv_own (P := Try.prog) 9 36 5 Try.underlying9 Try.underlying36 Try.underlying5 bs HML.out wc
    have HX := As.mk hrd
    have HCC := As.mk hcc
    have HFF := As.mk hff
    have HB2 := As.mk (HB.out.trans (hb1.mono HB.out.size))
    have HBS := As.mk HB.out.size
    have HD2 := As.mk (blk_below HD.out hb1)
    have HBW := As.mk hb1
    obtain ⟨d0, d1, d2⟩ := three_cell HD2.out
    have HDW := As.mk (blk_lt HD.out)
    clear hD hrow hb hDl hm hsm hle hrd hcc hff hb1 HB HD
    have HB := HB2
    have HD := HD2
    clear HB2 HD2
    go_upto_region 4 with ((at_builtin; refine wpList_made rfl (.tmp 33) (.tmp 39) 36 3 5 rfl Try.underlying36 Try.underlying3 info5 rfl (m := m) (by first | rfl | (simp [hwrap]; done)) rfl HX.out HCC.out HFF.out HSZ.out ?_; intro v2 w2 hr2 hs2; have HX2 := As.mk hr2; have HB2 := As.mk (hs2.2 w.heap.size HB.out.size HBS.out w HB.out); have HD2 := As.mk (((hs2.2 wc.heap.size HBW.out.size (Nat.le_refl _) W1 (Below.refl _ _)).block D HDW.out).trans HD.out); clear hr2 hs2 HB HD HX; have HX := HX2; have HB := HB2; have HD := HD2; clear HX2 HB2 HD2))
    have HX2 : As (RdB w2.drew v2 (bs ++ List.replicate m 0)) := ⟨RdS.drew HX.out⟩
    have HB2 : As (Below w.heap.size w w2.drew) := ⟨HB.out.drew⟩
    have HD2 : As (w2.drew.heap[D]? = _) := ⟨HD.out⟩
    clear HX HB HD
    have HX := HX2
    have HB := HB2
    have HD := HD2
    clear HX2 HB2 HD2 hcv HCC HFF HBW
    refine wp_region_held_drew (S := (fun W : World => W.cell? ⟨D, 2, none⟩ = some (.int .i64 k))) (by kernel_rfl) ?_ (fun hHeld => ?_)
    · exact (three_cell HD.out).2.2
    refine wpAnyH_take (i := 0) (oi := ?_) (v := ?_) (by simp only [List.getElem?_toArray, List.getElem?_cons_zero, List.getElem?_cons_succ]; rfl) (by kernel_rfl) (by kernel_rfl) (by kernel_rfl) (by exact fun _ _ _ h => h) (Or.inl ⟨by rfl, ?_⟩) (by assumption) ?_
    rotate_left
    · (intro w hSw; (try dsimp only at hSw); go_simp; first | done | with_reducible rfl)
    try simp only [Act.put, List.setIfInBounds_toArray, List.set_cons_zero, List.set_cons_succ]
    refine wpAnyH_take (i := 2) (oi := ?_) (v := ?_) (by simp only [List.getElem?_toArray, List.getElem?_cons_zero, List.getElem?_cons_succ]; rfl) (by kernel_rfl) (by kernel_rfl) (by kernel_rfl) (by exact fun _ _ _ h => h) (Or.inl ⟨by rfl, ?_⟩) (by assumption) ?_
    rotate_left
    · (intro w hSw; (try dsimp only at hSw); go_simp; first | done | with_reducible rfl)
    try simp only [Act.put, List.setIfInBounds_toArray, List.set_cons_zero, List.set_cons_succ]
    refine wpAnyH_take (i := 3) (oi := ?_) (v := ?_) (by simp only [List.getElem?_toArray, List.getElem?_cons_zero, List.getElem?_cons_succ]; rfl) (by kernel_rfl) (by kernel_rfl) (by kernel_rfl) (by exact fun _ _ _ h => h) (Or.inl ⟨by rfl, ?_⟩) (by assumption) ?_
    rotate_left
    · (intro w hSw; (try dsimp only at hSw); go_simp; first | done | with_reducible rfl)
    try simp only [Act.put, List.setIfInBounds_toArray, List.set_cons_zero, List.set_cons_succ]
    refine wpAnyH_ready (rs := [1]) (by kernel_rfl) (by simp) ?_
    refine AllReadyH.cons (o := ?_) (by simp only [List.getElem?_toArray, List.getElem?_cons_zero, List.getElem?_cons_succ]; rfl) (fun K hK => ?_) ?_
    · go_simp
      refine (kind_to _ _ _ HKIND.out HX.out).mono ?_
      rintro e w4 ⟨rfl, hb⟩
      have HB2 := As.mk (HB.out.trans (hb.mono HB.out.size))
      have HD2 := As.mk (blk_below HD.out hb)
      clear hb HB HD
      have HB := HB2
      have HD := HD2
      clear HB2 HD2
      dsimp only
      refine hK.out _ _ ?_ (fun hHeld2 => ?_)
      · exact (three_cell HD.out).2.2
      clear hK K hHeld
      have hHeld := hHeld2
      clear hHeld2
      try simp only [Act.put, List.setIfInBounds_toArray, List.set_cons_zero, List.set_cons_succ]
      refine wpAnyH_take (i := 4) (oi := ?_) (v := ?_) (by simp only [List.getElem?_toArray, List.getElem?_cons_zero, List.getElem?_cons_succ]; rfl) (by kernel_rfl) (by kernel_rfl) (by kernel_rfl) (by exact fun _ _ _ h => h) (Or.inl ⟨by rfl, ?_⟩) (by assumption) ?_
      rotate_left
      · (intro w hSw; (try dsimp only at hSw); go_simp; first | done | with_reducible rfl)
      try simp only [Act.put, List.setIfInBounds_toArray, List.set_cons_zero, List.set_cons_succ]
      refine wpAnyH_take (i := 5) (oi := ?_) (v := ?_) (by simp only [List.getElem?_toArray, List.getElem?_cons_zero, List.getElem?_cons_succ]; rfl) (by kernel_rfl) (by kernel_rfl) (by kernel_rfl) (by exact fun _ _ _ h => h) (Or.inl ⟨by rfl, ?_⟩) (by assumption) ?_
      rotate_left
      · (intro w hSw; (try dsimp only at hSw); go_simp; first | done | with_reducible rfl)
      try simp only [Act.put, List.setIfInBounds_toArray, List.set_cons_zero, List.set_cons_succ]
      refine wpAnyH_ready (rs := [6]) (by kernel_rfl) (by simp) ?_
      refine AllReadyH.cons (o := ?_) (by simp only [List.getElem?_toArray, List.getElem?_cons_zero, List.getElem?_cons_succ]; rfl) (fun K hK => ?_) ?_
      · go_simp
        refine (awake6_any _).mono ?_
        rintro e w5 ⟨rfl, hb⟩
        have HB2 := As.mk (HB.out.trans (hb.mono HB.out.size))
        have HD2 := As.mk (blk_below HD.out hb)
        clear hb HB HD
        have HB := HB2
        have HD := HD2
        clear HB2 HD2
        dsimp only
        refine hK.out _ _ ?_ (fun hHeld2 => ?_)
        · exact (three_cell HD.out).2.2
        clear hK K hHeld
        have hHeld := hHeld2
        clear hHeld2
        try simp only [Act.put, List.setIfInBounds_toArray, List.set_cons_zero, List.set_cons_succ]
        refine wpAnyH_take (i := 7) (oi := ?_) (v := ?_) (by simp only [List.getElem?_toArray, List.getElem?_cons_zero, List.getElem?_cons_succ]; rfl) (by kernel_rfl) (by kernel_rfl) (by kernel_rfl) (by exact fun _ _ _ h => h) (Or.inl ⟨by rfl, ?_⟩) (by assumption) ?_
        rotate_left
        · (intro w hSw; (try dsimp only at hSw); go_simp; first | done | with_reducible rfl)
        try simp only [Act.put, List.setIfInBounds_toArray, List.set_cons_zero, List.set_cons_succ]
        refine wpAnyH_take (i := 8) (oi := ?_) (v := ?_) (by simp only [List.getElem?_toArray, List.getElem?_cons_zero, List.getElem?_cons_succ]; rfl) (by kernel_rfl) (by kernel_rfl) (by kernel_rfl) (by exact fun _ _ _ h => h) (Or.inl ⟨by rfl, ?_⟩) (by assumption) ?_
        rotate_left
        · (intro w hSw; (try dsimp only at hSw); go_simp; first | done | with_reducible rfl)
        try simp only [Act.put, List.setIfInBounds_toArray, List.set_cons_zero, List.set_cons_succ]
        refine wpAnyH_done (by kernel_rfl) ?_ _
        go_wp2
        go_ret
        exact ⟨rfl, HB.out⟩
      exact AllReadyH.nil
    exact AllReadyH.nil
end Go.Proofs.Ytfbfdmgnicgalaa.W
namespace Go.Proofs.Ytfbfdmgnicgalaa.W
open Go.RowKit
theorem clasForms_row (which : Int) (wn : (Lit.int .i64 which).wf = true) (w : World) :
    Calls Try.prog 7 #[.int .i64 which] w fun e w' => e = .returned (.bool true) ∧ Below w.heap.size w w' := clasForms_walk which w
end Go.Proofs.Ytfbfdmgnicgalaa.W
