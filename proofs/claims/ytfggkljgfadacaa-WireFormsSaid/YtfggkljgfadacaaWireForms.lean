/- Counts have just these bytes, and these bytes are none: the walk of WireForms. -/
import Derived.Test.YtfggkljgfadacaaWireOrder
import Derived.Test.YtfggkljgfadacaaConv
import Derived.Deep.RegionHeld3
import Derived.Lib.SlBytesConst
set_option linter.unusedVariables false
set_option linter.unusedSimpArgs false
namespace Go.Proofs.Ytfggkljgfadacaa.W
open Go.RowKit Go.Proofs.Ytfggkljgfadacaa.B Go.Proofs

/-- A row of the table: its bytes, its number, whether they are one. -/
structure Row5 (bs : List UInt8) (n : Nat) (ok : Bool) : Prop where
  small : bs.length ≤ 9
  lt : n < 4294967296
  ex : ∃ l, rcount 4294967295 bs false = (n, l, !ok) ∧ (ok = true → l = [])
  back : ok = true → cnt n = bs
  less : rcount ((n : Int) - 1) bs false = (0, [], true)
theorem row5_0 : Row5 [0] 0 true := ⟨by decide, by decide, ⟨_, rfl, by decide⟩, by decide, by decide⟩
theorem row5_1 : Row5 [252] 252 true := ⟨by decide, by decide, ⟨_, rfl, by decide⟩, by decide, by decide⟩
theorem row5_2 : Row5 [253, 253, 0] 253 true := ⟨by decide, by decide, ⟨_, rfl, by decide⟩, by decide, by decide⟩
theorem row5_3 : Row5 [253, 255, 255] 65535 true := ⟨by decide, by decide, ⟨_, rfl, by decide⟩, by decide, by decide⟩
theorem row5_4 : Row5 [254, 0, 0, 1, 0] 65536 true := ⟨by decide, by decide, ⟨_, rfl, by decide⟩, by decide, by decide⟩
theorem row5_5 : Row5 [254, 255, 255, 255, 255] 4294967295 true := ⟨by decide, by decide, ⟨_, rfl, by decide⟩, by decide, by decide⟩
theorem row5_6 : Row5 [253, 252, 0] 0 false := ⟨by decide, by decide, ⟨_, rfl, by decide⟩, by decide, by decide⟩
theorem row5_7 : Row5 [254, 255, 255, 0, 0] 0 false := ⟨by decide, by decide, ⟨_, rfl, by decide⟩, by decide, by decide⟩
theorem row5_8 : Row5 [255, 0, 0, 0, 0, 1, 0, 0, 0] 0 false := ⟨by decide, by decide, ⟨_, rfl, by decide⟩, by decide, by decide⟩
theorem row5_9 : Row5 [253, 253] 0 false := ⟨by decide, by decide, ⟨_, rfl, by decide⟩, by decide, by decide⟩
theorem row5_10 : Row5 [] 0 false := ⟨by decide, by decide, ⟨_, rfl, by decide⟩, by decide, by decide⟩
theorem alloc_two (w : World) (a b : Obj) : ((w.alloc a).alloc b).heap[w.heap.size + 1]? = some b := by
  have h := heap_alloc_new (w.alloc a) b
  rw [show (w.alloc a).heap.size = w.heap.size + 1 from by simp] at h
  exact h
theorem three_cell {w : World} {B : Nat} {x y z : Value} {t : TypeId} (h : w.heap[B]? = some (.cells #[x, y, z] t (0, 0))) :
    w.cell? ⟨B, 0, none⟩ = some x ∧ w.cell? ⟨B, 1, none⟩ = some y ∧ w.cell? ⟨B, 2, none⟩ = some z := by
  refine ⟨?_, ?_, ?_⟩ <;> simp [World.cell?, h]
theorem blk_below {w w' : World} {B : Nat} {o : Obj} (h : w.heap[B]? = some o) (hb : Below w.heap.size w w') : w'.heap[B]? = some o := by
  rw [hb.block B (Array.getElem?_eq_some_iff.1 h).1]; exact h
theorem blk_grown {w w' : World} {B D : Nat} {o : Obj} (h : w.heap[D]? = some o) (hne : D ≠ B) (hg : w.grownBy w' (some B)) : w'.heap[D]? = some o := by
  rw [hg.block D (Array.getElem?_eq_some_iff.1 h).1 (by simpa using hne)]; exact h
theorem blk_lt {w : World} {B : Nat} {o : Obj} (h : w.heap[B]? = some o) : B < w.heap.size := (Array.getElem?_eq_some_iff.1 h).1
set_option maxHeartbeats 4000000 in
set_option maxRecDepth 100000 in
theorem wireForms_walk (which : Int) (w : World) :
    Calls Try.prog 5 #[.int .i64 which] w fun e w' => e = .returned (.bool true) ∧ Below w.heap.size w w' := by
  have h255 := i64_and255 which
  go_enter Try.func5, Try.ntmps5
  go_upto_region 2 with (fail)
  go_cut [4] (fun v4 wc => ∃ (D : Nat) (bs : List UInt8) (n : Nat) (ok : Bool), v4 = .pointer (some ⟨D, 0, none⟩) ∧ As (wc.heap[D]? = some (.cells #[.string ⟨bs.toArray⟩, .int .i64 (n : Int), .bool ok] 38 (0, 0)) ∧ Row5 bs n ok ∧ Below w.heap.size w wc ∧ w.heap.size ≤ D))
  case first =>
    have hK : which % 256 % 11 = 0 ∨ which % 256 % 11 = 1 ∨ which % 256 % 11 = 2 ∨ which % 256 % 11 = 3 ∨ which % 256 % 11 = 4 ∨ which % 256 % 11 = 5 ∨ which % 256 % 11 = 6 ∨ which % 256 % 11 = 7 ∨ which % 256 % 11 = 8 ∨ which % 256 % 11 = 9 ∨ which % 256 % 11 = 10 := by omega
    rcases hK with hK | hK | hK | hK | hK | hK | hK | hK | hK | hK | hK
    · go_wp2
      go_meet
      exact ⟨w.heap.size + 1, [0], 0, true, rfl, ⟨alloc_two _ _ _, row5_0, ((Below.refl _ _).alloc (Nat.le_refl _) _).alloc (by simp) _, by omega⟩⟩
    · go_wp2
      go_meet
      exact ⟨w.heap.size + 1, [252], 252, true, rfl, ⟨alloc_two _ _ _, row5_1, ((Below.refl _ _).alloc (Nat.le_refl _) _).alloc (by simp) _, by omega⟩⟩
    · go_wp2
      go_meet
      exact ⟨w.heap.size + 1, [253, 253, 0], 253, true, rfl, ⟨alloc_two _ _ _, row5_2, ((Below.refl _ _).alloc (Nat.le_refl _) _).alloc (by simp) _, by omega⟩⟩
    · go_wp2
      go_meet
      exact ⟨w.heap.size + 1, [253, 255, 255], 65535, true, rfl, ⟨alloc_two _ _ _, row5_3, ((Below.refl _ _).alloc (Nat.le_refl _) _).alloc (by simp) _, by omega⟩⟩
    · go_wp2
      go_meet
      exact ⟨w.heap.size + 1, [254, 0, 0, 1, 0], 65536, true, rfl, ⟨alloc_two _ _ _, row5_4, ((Below.refl _ _).alloc (Nat.le_refl _) _).alloc (by simp) _, by omega⟩⟩
    · go_wp2
      go_meet
      exact ⟨w.heap.size + 1, [254, 255, 255, 255, 255], 4294967295, true, rfl, ⟨alloc_two _ _ _, row5_5, ((Below.refl _ _).alloc (Nat.le_refl _) _).alloc (by simp) _, by omega⟩⟩
    · go_wp2
      go_meet
      exact ⟨w.heap.size + 1, [253, 252, 0], 0, false, rfl, ⟨alloc_two _ _ _, row5_6, ((Below.refl _ _).alloc (Nat.le_refl _) _).alloc (by simp) _, by omega⟩⟩
    · go_wp2
      go_meet
      exact ⟨w.heap.size + 1, [254, 255, 255, 0, 0], 0, false, rfl, ⟨alloc_two _ _ _, row5_7, ((Below.refl _ _).alloc (Nat.le_refl _) _).alloc (by simp) _, by omega⟩⟩
    · go_wp2
      go_meet
      exact ⟨w.heap.size + 1, [255, 0, 0, 0, 0, 1, 0, 0, 0], 0, false, rfl, ⟨alloc_two _ _ _, row5_8, ((Below.refl _ _).alloc (Nat.le_refl _) _).alloc (by simp) _, by omega⟩⟩
    · go_wp2
      go_meet
      exact ⟨w.heap.size + 1, [253, 253], 0, false, rfl, ⟨alloc_two _ _ _, row5_9, ((Below.refl _ _).alloc (Nat.le_refl _) _).alloc (by simp) _, by omega⟩⟩
    · go_wp2
      go_meet
      exact ⟨w.heap.size + 1, [], 0, false, rfl, ⟨alloc_two _ _ _, row5_10, ((Below.refl _ _).alloc (Nat.le_refl _) _).alloc (by simp) _, by omega⟩⟩
  case rest =>
    obtain ⟨D, bs, n, ok, rfl, HC⟩ := hcut
    obtain ⟨⟨hD, hrow, hb, hDl⟩⟩ := HC
    obtain ⟨l, hex, hl0⟩ := hrow.ex
    have HL : As (bs.length ≤ 140737488355328) := ⟨by have := hrow.small; omega⟩
    have HML : As (bs.length ≤ maxLen) := ⟨by have := hrow.small; unfold maxLen; omega⟩
    have HLES := As.mk hrow.less
    have HLT := As.mk hrow.lt
    have HBK := As.mk hrow.back
    have HL0 := As.mk hl0
    have HEX := As.mk hex
    have HD := As.mk hD
    obtain ⟨c0, c1, c2⟩ := three_cell hD
    have HB := As.mk hb
    obtain ⟨A, c, W1, hcv, hrd, hb1⟩ := conv_bytes (P := Try.prog) 9 24 5 Try.underlying9 Try.underlying24 Try.underlying5 bs HML.out wc
    have HX1 := As.mk hrd
    have HB2 := As.mk (HB.out.trans (hb1.mono HB.out.size))
    have HD2 := As.mk (blk_below HD.out hb1)
    clear hD hrow hl0 hex hrd hb1 hb hDl HB HD
    have HB := HB2
    have HD := HD2
    clear HB2 HD2
    go_upto_region 7 with (first | (go_at_call 18; (with_reducible refine (read_any _ bs _ HX1.out HL.out).mono ?_); rintro e w' ⟨B1, rfl, hB, hr, hb⟩; have HNE1 := As.mk (show D ≠ B1 by have := blk_lt HD.out; omega); have HR1 := As.mk hr; have HBB1 := As.mk (Nat.le_trans HB.out.size hB); have HB2 := As.mk (HB.out.trans (hb.mono HB.out.size)); have HD2 := As.mk (blk_below HD.out hb); obtain ⟨e0, e1, e2⟩ := three_cell HD2.out; clear hr hb hB HB HD; have HB := HB2; have HD := HD2; clear HB2 HD2) | (go_at_call 21; (with_reducible refine (rcount_to B1 bs false 4294967295 _ HEX.out HR1.out (by omega) (by omega)).mono ?_); rintro e wr1 ⟨rfl, hr1, hg1⟩; have HR2 := As.mk hr1; have HB2 := As.mk (below_grown HB.out hg1 HBB1.out HB.out.size); have HD2 := As.mk (blk_grown HD.out HNE1.out hg1); obtain ⟨g0, g1, g2⟩ := three_cell HD2.out; clear hr1 hg1 HR1 HB HD; have HR1 := HR2; have HB := HB2; have HD := HD2; clear HR2 HB2 HD2))
    have HB2 : As (Below w.heap.size w wr1.drew) := ⟨HB.out.drew⟩
    have HD2 := As.mk (show wr1.drew.heap[D]? = _ from HD.out)
    have HR2 := As.mk (show Rdr 74 wr1.drew B1 l (!ok) from HR1.out)
    clear HB HD HR1
    have HB := HB2
    have HD := HD2
    have HR1 := HR2
    clear HB2 HD2 HR2
    have HN0 : As (0 ≤ (n : Int) - 1 ∨ True) := ⟨Or.inr trivial⟩
    have hwr : IntKind.i64.wrap ((n : Int) - 1) = (n : Int) - 1 := IntWalk.i64_in _ (by have := HLT.out; omega)
    cases ok
    · skip
      refine wp_region_held_drew (S := (fun W : World => W.cell? ⟨D, 0, none⟩ = some (.string ⟨bs.toArray⟩) ∧ W.cell? ⟨D, 1, none⟩ = some (.int .i64 (n : Int)) ∧ W.cell? ⟨D, 2, none⟩ = some (.bool false))) (by kernel_rfl) ?_ (fun hHeld => ?_)
      · exact three_cell HD.out
      refine wpAnyH_take (i := 0) (oi := ?_) (v := ?_) (by simp only [List.getElem?_toArray, List.getElem?_cons_zero, List.getElem?_cons_succ]; rfl) (by kernel_rfl) (by kernel_rfl) (by kernel_rfl) (by exact fun _ _ _ h => h) (Or.inl ⟨by rfl, ?_⟩) (by assumption) ?_
      rotate_left
      · (intro w hSw; (try dsimp only at hSw); go_simp; first | done | with_reducible rfl)
      try simp only [Act.put, List.setIfInBounds_toArray, List.set_cons_zero, List.set_cons_succ]
      refine wpAnyH_take (i := 1) (oi := ?_) (v := ?_) (by simp only [List.getElem?_toArray, List.getElem?_cons_zero, List.getElem?_cons_succ]; rfl) (by kernel_rfl) (by kernel_rfl) (by kernel_rfl) (by exact fun _ _ _ h => h) (Or.inl ⟨by rfl, ?_⟩) (by assumption) ?_
      rotate_left
      · (intro w hSw; (try dsimp only at hSw); go_simp; first | done | with_reducible rfl)
      try simp only [Act.put, List.setIfInBounds_toArray, List.set_cons_zero, List.set_cons_succ]
      refine wpAnyH_take (i := 2) (oi := ?_) (v := ?_) (by simp only [List.getElem?_toArray, List.getElem?_cons_zero, List.getElem?_cons_succ]; rfl) (by kernel_rfl) (by kernel_rfl) (by kernel_rfl) (by exact fun _ _ _ h => h) (Or.inl ⟨by rfl, ?_⟩) (by assumption) ?_
      rotate_left
      · (intro w hSw; (try dsimp only at hSw); go_simp; first | done | with_reducible rfl)
      try simp only [Act.put, List.setIfInBounds_toArray, List.set_cons_zero, List.set_cons_succ]
      refine wpAnyH_take (i := 3) (oi := ?_) (v := ?_) (by simp only [List.getElem?_toArray, List.getElem?_cons_zero, List.getElem?_cons_succ]; rfl) (by kernel_rfl) (by kernel_rfl) (by kernel_rfl) (by exact fun _ _ _ h => h) (Or.inl ⟨by rfl, ?_⟩) (by assumption) ?_
      rotate_left
      · (intro w hSw; (try dsimp only at hSw); go_simp; first | done | with_reducible rfl)
      try simp only [Act.put, List.setIfInBounds_toArray, List.set_cons_zero, List.set_cons_succ]
      refine wpAnyH_take (i := 4) (oi := ?_) (v := ?_) (by simp only [List.getElem?_toArray, List.getElem?_cons_zero, List.getElem?_cons_succ]; rfl) (by kernel_rfl) (by kernel_rfl) (by kernel_rfl) (by exact fun _ _ _ h => h) (Or.inl ⟨by rfl, ?_⟩) (by assumption) ?_
      rotate_left
      · (intro w hSw; (try dsimp only at hSw); go_simp; first | done | with_reducible rfl)
      try simp only [Act.put, List.setIfInBounds_toArray, List.set_cons_zero, List.set_cons_succ]
      refine wpAnyH_take (i := 5) (oi := ?_) (v := ?_) (by simp only [List.getElem?_toArray, List.getElem?_cons_zero, List.getElem?_cons_succ]; rfl) (by kernel_rfl) (by kernel_rfl) (by kernel_rfl) (by exact fun _ _ _ h => h) (Or.inl ⟨by rfl, ?_⟩) (by assumption) ?_
      rotate_left
      · (intro w hSw; (try dsimp only at hSw); go_simp; first | done | with_reducible rfl)
      try simp only [Act.put, List.setIfInBounds_toArray, List.set_cons_zero, List.set_cons_succ]
      refine wpAnyH_take (i := 7) (oi := ?_) (v := ?_) (by simp only [List.getElem?_toArray, List.getElem?_cons_zero, List.getElem?_cons_succ]; rfl) (by kernel_rfl) (by kernel_rfl) (by kernel_rfl) (by exact fun _ _ _ h => h) (Or.inl ⟨by rfl, ?_⟩) (by assumption) ?_
      rotate_left
      · (intro w hSw; (try dsimp only at hSw); go_simp; first | done | with_reducible rfl)
      try simp only [Act.put, List.setIfInBounds_toArray, List.set_cons_zero, List.set_cons_succ]
      refine wpAnyH_take (i := 8) (oi := ?_) (v := ?_) (by simp only [List.getElem?_toArray, List.getElem?_cons_zero, List.getElem?_cons_succ]; rfl) (by kernel_rfl) (by kernel_rfl) (by kernel_rfl) (by exact fun _ _ _ h => h) (Or.inl ⟨by rfl, ?_⟩) (by assumption) ?_
      rotate_left
      · (intro w hSw; (try dsimp only at hSw); go_simp; first | done | with_reducible rfl)
      try simp only [Act.put, List.setIfInBounds_toArray, List.set_cons_zero, List.set_cons_succ]
      refine wpAnyH_ready (rs := [6]) (by kernel_rfl) (by simp) ?_
      refine AllReadyH.cons (o := ?_) (by simp only [List.getElem?_toArray, List.getElem?_cons_zero, List.getElem?_cons_succ]; rfl) (fun K hK => ?_) ?_
      · go_simp
        refine (ok_any B1 l _ _ HR1.out).mono ?_
        rintro e w4 ⟨rfl, rfl⟩
        dsimp only
        refine hK.out _ _ ?_ (fun hHeld2 => ?_)
        · exact three_cell HD.out
        clear hK K hHeld
        have hHeld := hHeld2
        clear hHeld2
        try simp only [Act.put, List.setIfInBounds_toArray, List.set_cons_zero, List.set_cons_succ]
        refine wpAnyH_take (i := 9) (oi := ?_) (v := ?_) (by simp only [List.getElem?_toArray, List.getElem?_cons_zero, List.getElem?_cons_succ]; rfl) (by kernel_rfl) (by kernel_rfl) (by kernel_rfl) (by exact fun _ _ _ h => h) (Or.inl ⟨by rfl, ?_⟩) (by assumption) ?_
        rotate_left
        · (intro w hSw; (try dsimp only at hSw); go_simp; first | done | with_reducible rfl)
        try simp only [Act.put, List.setIfInBounds_toArray, List.set_cons_zero, List.set_cons_succ]
        refine wpAnyH_take (i := 10) (oi := ?_) (v := ?_) (by simp only [List.getElem?_toArray, List.getElem?_cons_zero, List.getElem?_cons_succ]; rfl) (by kernel_rfl) (by kernel_rfl) (by kernel_rfl) (by exact fun _ _ _ h => h) (Or.inl ⟨by rfl, ?_⟩) (by assumption) ?_
        rotate_left
        · (intro w hSw; (try dsimp only at hSw); go_simp; first | done | with_reducible rfl)
        try simp only [Act.put, List.setIfInBounds_toArray, List.set_cons_zero, List.set_cons_succ]
        refine wpAnyH_take (i := 11) (oi := ?_) (v := ?_) (by simp only [List.getElem?_toArray, List.getElem?_cons_zero, List.getElem?_cons_succ]; rfl) (by kernel_rfl) (by kernel_rfl) (by kernel_rfl) (by exact fun _ _ _ h => h) (Or.inl ⟨by rfl, ?_⟩) (by assumption) ?_
        rotate_left
        · (intro w hSw; (try dsimp only at hSw); go_simp; first | done | with_reducible rfl)
        try simp only [Act.put, List.setIfInBounds_toArray, List.set_cons_zero, List.set_cons_succ]
        refine wpAnyH_take (i := 12) (oi := ?_) (v := ?_) (by simp only [List.getElem?_toArray, List.getElem?_cons_zero, List.getElem?_cons_succ]; rfl) (by kernel_rfl) (by kernel_rfl) (by kernel_rfl) (by exact fun _ _ _ h => h) (Or.inl ⟨by rfl, ?_⟩) (by assumption) ?_
        rotate_left
        · (intro w hSw; (try dsimp only at hSw); go_simp; first | done | with_reducible rfl)
        try simp only [Act.put, List.setIfInBounds_toArray, List.set_cons_zero, List.set_cons_succ]
        refine wpAnyH_take (i := 13) (oi := ?_) (v := ?_) (by simp only [List.getElem?_toArray, List.getElem?_cons_zero, List.getElem?_cons_succ]; rfl) (by kernel_rfl) (by kernel_rfl) (by kernel_rfl) (by exact fun _ _ _ h => h) (Or.inl ⟨by rfl, ?_⟩) (by assumption) ?_
        rotate_left
        · (intro w hSw; (try dsimp only at hSw); go_simp; first | done | with_reducible rfl)
        try simp only [Act.put, List.setIfInBounds_toArray, List.set_cons_zero, List.set_cons_succ]
        refine wpAnyH_take (i := 14) (oi := ?_) (v := ?_) (by simp only [List.getElem?_toArray, List.getElem?_cons_zero, List.getElem?_cons_succ]; rfl) (by kernel_rfl) (by kernel_rfl) (by kernel_rfl) (by exact fun _ _ _ h => h) (Or.inl ⟨by rfl, ?_⟩) (by assumption) ?_
        rotate_left
        · (intro w hSw; (try dsimp only at hSw); go_simp; first | done | with_reducible rfl)
        try simp only [Act.put, List.setIfInBounds_toArray, List.set_cons_zero, List.set_cons_succ]
        refine wpAnyH_take (i := 15) (oi := ?_) (v := undef) (by simp only [List.getElem?_toArray, List.getElem?_cons_zero, List.getElem?_cons_succ]; rfl) (by kernel_rfl) (by kernel_rfl) (by kernel_rfl) (by exact fun _ _ _ h => h) (Or.inr ⟨by rfl, rfl⟩) (by assumption) ?_
        try simp only [Act.put, List.setIfInBounds_toArray, List.set_cons_zero, List.set_cons_succ]
        refine wpAnyH_take (i := 16) (oi := ?_) (v := undef) (by simp only [List.getElem?_toArray, List.getElem?_cons_zero, List.getElem?_cons_succ]; rfl) (by kernel_rfl) (by kernel_rfl) (by kernel_rfl) (by exact fun _ _ _ h => h) (Or.inr ⟨by rfl, rfl⟩) (by assumption) ?_
        try simp only [Act.put, List.setIfInBounds_toArray, List.set_cons_zero, List.set_cons_succ]
        refine wpAnyH_take (i := 17) (oi := ?_) (v := undef) (by simp only [List.getElem?_toArray, List.getElem?_cons_zero, List.getElem?_cons_succ]; rfl) (by kernel_rfl) (by kernel_rfl) (by kernel_rfl) (by exact fun _ _ _ h => h) (Or.inr ⟨by rfl, rfl⟩) (by assumption) ?_
        try simp only [Act.put, List.setIfInBounds_toArray, List.set_cons_zero, List.set_cons_succ]
        refine wpAnyH_take (i := 18) (oi := ?_) (v := undef) (by simp only [List.getElem?_toArray, List.getElem?_cons_zero, List.getElem?_cons_succ]; rfl) (by kernel_rfl) (by kernel_rfl) (by kernel_rfl) (by exact fun _ _ _ h => h) (Or.inr ⟨by rfl, rfl⟩) (by assumption) ?_
        try simp only [Act.put, List.setIfInBounds_toArray, List.set_cons_zero, List.set_cons_succ]
        refine wpAnyH_take (i := 19) (oi := ?_) (v := undef) (by simp only [List.getElem?_toArray, List.getElem?_cons_zero, List.getElem?_cons_succ]; rfl) (by kernel_rfl) (by kernel_rfl) (by kernel_rfl) (by exact fun _ _ _ h => h) (Or.inr ⟨by rfl, rfl⟩) (by assumption) ?_
        try simp only [Act.put, List.setIfInBounds_toArray, List.set_cons_zero, List.set_cons_succ]
        refine wpAnyH_take (i := 20) (oi := ?_) (v := undef) (by simp only [List.getElem?_toArray, List.getElem?_cons_zero, List.getElem?_cons_succ]; rfl) (by kernel_rfl) (by kernel_rfl) (by kernel_rfl) (by exact fun _ _ _ h => h) (Or.inr ⟨by rfl, rfl⟩) (by assumption) ?_
        try simp only [Act.put, List.setIfInBounds_toArray, List.set_cons_zero, List.set_cons_succ]
        refine wpAnyH_take (i := 21) (oi := ?_) (v := undef) (by simp only [List.getElem?_toArray, List.getElem?_cons_zero, List.getElem?_cons_succ]; rfl) (by kernel_rfl) (by kernel_rfl) (by kernel_rfl) (by exact fun _ _ _ h => h) (Or.inr ⟨by rfl, rfl⟩) (by assumption) ?_
        try simp only [Act.put, List.setIfInBounds_toArray, List.set_cons_zero, List.set_cons_succ]
        refine wpAnyH_take (i := 22) (oi := ?_) (v := undef) (by simp only [List.getElem?_toArray, List.getElem?_cons_zero, List.getElem?_cons_succ]; rfl) (by kernel_rfl) (by kernel_rfl) (by kernel_rfl) (by exact fun _ _ _ h => h) (Or.inr ⟨by rfl, rfl⟩) (by assumption) ?_
        try simp only [Act.put, List.setIfInBounds_toArray, List.set_cons_zero, List.set_cons_succ]
        refine wpAnyH_take (i := 23) (oi := ?_) (v := undef) (by simp only [List.getElem?_toArray, List.getElem?_cons_zero, List.getElem?_cons_succ]; rfl) (by kernel_rfl) (by kernel_rfl) (by kernel_rfl) (by exact fun _ _ _ h => h) (Or.inr ⟨by rfl, rfl⟩) (by assumption) ?_
        try simp only [Act.put, List.setIfInBounds_toArray, List.set_cons_zero, List.set_cons_succ]
        refine wpAnyH_take (i := 24) (oi := ?_) (v := undef) (by simp only [List.getElem?_toArray, List.getElem?_cons_zero, List.getElem?_cons_succ]; rfl) (by kernel_rfl) (by kernel_rfl) (by kernel_rfl) (by exact fun _ _ _ h => h) (Or.inr ⟨by rfl, rfl⟩) (by assumption) ?_
        try simp only [Act.put, List.setIfInBounds_toArray, List.set_cons_zero, List.set_cons_succ]
        refine wpAnyH_take (i := 25) (oi := ?_) (v := undef) (by simp only [List.getElem?_toArray, List.getElem?_cons_zero, List.getElem?_cons_succ]; rfl) (by kernel_rfl) (by kernel_rfl) (by kernel_rfl) (by exact fun _ _ _ h => h) (Or.inr ⟨by rfl, rfl⟩) (by assumption) ?_
        try simp only [Act.put, List.setIfInBounds_toArray, List.set_cons_zero, List.set_cons_succ]
        refine wpAnyH_take (i := 26) (oi := ?_) (v := undef) (by simp only [List.getElem?_toArray, List.getElem?_cons_zero, List.getElem?_cons_succ]; rfl) (by kernel_rfl) (by kernel_rfl) (by kernel_rfl) (by exact fun _ _ _ h => h) (Or.inr ⟨by rfl, rfl⟩) (by assumption) ?_
        try simp only [Act.put, List.setIfInBounds_toArray, List.set_cons_zero, List.set_cons_succ]
        refine wpAnyH_take (i := 27) (oi := ?_) (v := ?_) (by simp only [List.getElem?_toArray, List.getElem?_cons_zero, List.getElem?_cons_succ]; rfl) (by kernel_rfl) (by kernel_rfl) (by kernel_rfl) (by exact fun _ _ _ h => h) (Or.inl ⟨by rfl, ?_⟩) (by assumption) ?_
        rotate_left
        · (intro w hSw; (try dsimp only at hSw); go_simp; first | done | with_reducible rfl)
        try simp only [Act.put, List.setIfInBounds_toArray, List.set_cons_zero, List.set_cons_succ]
        refine wpAnyH_take (i := 28) (oi := ?_) (v := ?_) (by simp only [List.getElem?_toArray, List.getElem?_cons_zero, List.getElem?_cons_succ]; rfl) (by kernel_rfl) (by kernel_rfl) (by kernel_rfl) (by exact fun _ _ _ h => h) (Or.inl ⟨by rfl, ?_⟩) (by assumption) ?_
        rotate_left
        · (intro w hSw; (try dsimp only at hSw); go_simp; first | done | with_reducible rfl)
        try simp only [Act.put, List.setIfInBounds_toArray, List.set_cons_zero, List.set_cons_succ]
        refine wpAnyH_done (by kernel_rfl) ?_ _
        go_upto_region 9 with (fail)
        obtain ⟨A2, c2', W2, hcv2, hrd2, hb2⟩ := conv_bytes (P := Try.prog) 9 24 5 Try.underlying9 Try.underlying24 Try.underlying5 bs HML.out (wr1.drew)
        obtain ⟨k0, k1, k2⟩ := three_cell HD.out
        have HX2 := As.mk hrd2
        have HB2 := As.mk (HB.out.trans (hb2.mono HB.out.size))
        have HD2 := As.mk (blk_below HD.out hb2)
        clear hrd2 hb2 HB HD
        have HB := HB2
        have HD := HD2
        clear HB2 HD2
        go_wp2_with (first | (go_at_call 18; (with_reducible refine (read_any _ bs _ HX2.out HL.out).mono ?_); rintro e w' ⟨B2, rfl, hB, hr, hb⟩; have HNE2 := As.mk (show D ≠ B2 by have := blk_lt HD.out; omega); have HR2 := As.mk hr; have HBB2 := As.mk (Nat.le_trans HB.out.size hB); have HB2 := As.mk (HB.out.trans (hb.mono HB.out.size)); have HD2 := As.mk (blk_below HD.out hb); obtain ⟨e0, e1, e2⟩ := three_cell HD2.out; clear hr hb hB HB HD; have HB := HB2; have HD := HD2; clear HB2 HD2) | (go_at_call 21; (with_reducible refine (rcount_to B2 bs false ((n : Int) - 1) _ HLES.out HR2.out (by have := HLT.out; omega) (by have := HLT.out; omega)).mono ?_); rintro e wr2 ⟨rfl, hr1, hg1⟩; have HR3 := As.mk hr1; have HB2 := As.mk (below_grown HB.out hg1 HBB2.out HB.out.size); have HD2 := As.mk (blk_grown HD.out HNE2.out hg1); obtain ⟨g0, g1, g2⟩ := three_cell HD2.out; clear hr1 hg1 HR2 HB HD; have HR2 := HR3; have HB := HB2; have HD := HD2; clear HR3 HB2 HD2) | (go_at_call 23; (with_reducible refine (ok_any B2 [] true _ HR2.out).mono ?_); rintro e w' ⟨rfl, rfl⟩) | (go_at_call 24; (with_reducible refine (awake2_any _).mono ?_); rintro e w' ⟨rfl, hb⟩; have HB2 := As.mk (HB.out.trans (hb.mono HB.out.size)); clear hb))
        go_ret
        exact ⟨rfl, HB2.out⟩
      exact AllReadyH.nil
    · obtain rfl := HL0.out rfl
      have HQ0 : As ([] ++ cnt (clampU (n : Int)) = bs) := ⟨by rw [clampU_nat n (Nat.le_of_lt_succ HLT.out)]; exact HBK.out rfl⟩
      refine wp_region_held_drew (S := (fun W : World => W.cell? ⟨D, 0, none⟩ = some (.string ⟨bs.toArray⟩) ∧ W.cell? ⟨D, 1, none⟩ = some (.int .i64 (n : Int)) ∧ W.cell? ⟨D, 2, none⟩ = some (.bool true))) (by kernel_rfl) ?_ (fun hHeld => ?_)
      · exact three_cell HD.out
      refine wpAnyH_take (i := 0) (oi := ?_) (v := ?_) (by simp only [List.getElem?_toArray, List.getElem?_cons_zero, List.getElem?_cons_succ]; rfl) (by kernel_rfl) (by kernel_rfl) (by kernel_rfl) (by exact fun _ _ _ h => h) (Or.inl ⟨by rfl, ?_⟩) (by assumption) ?_
      rotate_left
      · (intro w hSw; (try dsimp only at hSw); go_simp; first | done | with_reducible rfl)
      try simp only [Act.put, List.setIfInBounds_toArray, List.set_cons_zero, List.set_cons_succ]
      refine wpAnyH_take (i := 1) (oi := ?_) (v := ?_) (by simp only [List.getElem?_toArray, List.getElem?_cons_zero, List.getElem?_cons_succ]; rfl) (by kernel_rfl) (by kernel_rfl) (by kernel_rfl) (by exact fun _ _ _ h => h) (Or.inl ⟨by rfl, ?_⟩) (by assumption) ?_
      rotate_left
      · (intro w hSw; (try dsimp only at hSw); go_simp; first | done | with_reducible rfl)
      try simp only [Act.put, List.setIfInBounds_toArray, List.set_cons_zero, List.set_cons_succ]
      refine wpAnyH_take (i := 2) (oi := ?_) (v := ?_) (by simp only [List.getElem?_toArray, List.getElem?_cons_zero, List.getElem?_cons_succ]; rfl) (by kernel_rfl) (by kernel_rfl) (by kernel_rfl) (by exact fun _ _ _ h => h) (Or.inl ⟨by rfl, ?_⟩) (by assumption) ?_
      rotate_left
      · (intro w hSw; (try dsimp only at hSw); go_simp; first | done | with_reducible rfl)
      try simp only [Act.put, List.setIfInBounds_toArray, List.set_cons_zero, List.set_cons_succ]
      refine wpAnyH_take (i := 3) (oi := ?_) (v := ?_) (by simp only [List.getElem?_toArray, List.getElem?_cons_zero, List.getElem?_cons_succ]; rfl) (by kernel_rfl) (by kernel_rfl) (by kernel_rfl) (by exact fun _ _ _ h => h) (Or.inl ⟨by rfl, ?_⟩) (by assumption) ?_
      rotate_left
      · (intro w hSw; (try dsimp only at hSw); go_simp; first | done | with_reducible rfl)
      try simp only [Act.put, List.setIfInBounds_toArray, List.set_cons_zero, List.set_cons_succ]
      refine wpAnyH_take (i := 4) (oi := ?_) (v := ?_) (by simp only [List.getElem?_toArray, List.getElem?_cons_zero, List.getElem?_cons_succ]; rfl) (by kernel_rfl) (by kernel_rfl) (by kernel_rfl) (by exact fun _ _ _ h => h) (Or.inl ⟨by rfl, ?_⟩) (by assumption) ?_
      rotate_left
      · (intro w hSw; (try dsimp only at hSw); go_simp; first | done | with_reducible rfl)
      try simp only [Act.put, List.setIfInBounds_toArray, List.set_cons_zero, List.set_cons_succ]
      refine wpAnyH_take (i := 5) (oi := ?_) (v := ?_) (by simp only [List.getElem?_toArray, List.getElem?_cons_zero, List.getElem?_cons_succ]; rfl) (by kernel_rfl) (by kernel_rfl) (by kernel_rfl) (by exact fun _ _ _ h => h) (Or.inl ⟨by rfl, ?_⟩) (by assumption) ?_
      rotate_left
      · (intro w hSw; (try dsimp only at hSw); go_simp; first | done | with_reducible rfl)
      try simp only [Act.put, List.setIfInBounds_toArray, List.set_cons_zero, List.set_cons_succ]
      refine wpAnyH_take (i := 7) (oi := ?_) (v := ?_) (by simp only [List.getElem?_toArray, List.getElem?_cons_zero, List.getElem?_cons_succ]; rfl) (by kernel_rfl) (by kernel_rfl) (by kernel_rfl) (by exact fun _ _ _ h => h) (Or.inl ⟨by rfl, ?_⟩) (by assumption) ?_
      rotate_left
      · (intro w hSw; (try dsimp only at hSw); go_simp; first | done | with_reducible rfl)
      try simp only [Act.put, List.setIfInBounds_toArray, List.set_cons_zero, List.set_cons_succ]
      refine wpAnyH_take (i := 8) (oi := ?_) (v := ?_) (by simp only [List.getElem?_toArray, List.getElem?_cons_zero, List.getElem?_cons_succ]; rfl) (by kernel_rfl) (by kernel_rfl) (by kernel_rfl) (by exact fun _ _ _ h => h) (Or.inl ⟨by rfl, ?_⟩) (by assumption) ?_
      rotate_left
      · (intro w hSw; (try dsimp only at hSw); go_simp; first | done | with_reducible rfl)
      try simp only [Act.put, List.setIfInBounds_toArray, List.set_cons_zero, List.set_cons_succ]
      refine wpAnyH_ready (rs := [6]) (by kernel_rfl) (by simp) ?_
      refine AllReadyH.cons (o := ?_) (by simp only [List.getElem?_toArray, List.getElem?_cons_zero, List.getElem?_cons_succ]; rfl) (fun K hK => ?_) ?_
      · go_simp
        refine (ok_any B1 [] _ _ HR1.out).mono ?_
        rintro e w4 ⟨rfl, rfl⟩
        dsimp only
        refine hK.out _ _ ?_ (fun hHeld2 => ?_)
        · exact three_cell HD.out
        clear hK K hHeld
        have hHeld := hHeld2
        clear hHeld2
        try simp only [Act.put, List.setIfInBounds_toArray, List.set_cons_zero, List.set_cons_succ]
        refine wpAnyH_take (i := 9) (oi := ?_) (v := ?_) (by simp only [List.getElem?_toArray, List.getElem?_cons_zero, List.getElem?_cons_succ]; rfl) (by kernel_rfl) (by kernel_rfl) (by kernel_rfl) (by exact fun _ _ _ h => h) (Or.inl ⟨by rfl, ?_⟩) (by assumption) ?_
        rotate_left
        · (intro w hSw; (try dsimp only at hSw); go_simp; first | done | with_reducible rfl)
        try simp only [Act.put, List.setIfInBounds_toArray, List.set_cons_zero, List.set_cons_succ]
        refine wpAnyH_take (i := 10) (oi := ?_) (v := ?_) (by simp only [List.getElem?_toArray, List.getElem?_cons_zero, List.getElem?_cons_succ]; rfl) (by kernel_rfl) (by kernel_rfl) (by kernel_rfl) (by exact fun _ _ _ h => h) (Or.inl ⟨by rfl, ?_⟩) (by assumption) ?_
        rotate_left
        · (intro w hSw; (try dsimp only at hSw); go_simp; first | done | with_reducible rfl)
        try simp only [Act.put, List.setIfInBounds_toArray, List.set_cons_zero, List.set_cons_succ]
        refine wpAnyH_take (i := 11) (oi := ?_) (v := ?_) (by simp only [List.getElem?_toArray, List.getElem?_cons_zero, List.getElem?_cons_succ]; rfl) (by kernel_rfl) (by kernel_rfl) (by kernel_rfl) (by exact fun _ _ _ h => h) (Or.inl ⟨by rfl, ?_⟩) (by assumption) ?_
        rotate_left
        · (intro w hSw; (try dsimp only at hSw); go_simp; first | done | with_reducible rfl)
        try simp only [Act.put, List.setIfInBounds_toArray, List.set_cons_zero, List.set_cons_succ]
        refine wpAnyH_take (i := 12) (oi := ?_) (v := ?_) (by simp only [List.getElem?_toArray, List.getElem?_cons_zero, List.getElem?_cons_succ]; rfl) (by kernel_rfl) (by kernel_rfl) (by kernel_rfl) (by exact fun _ _ _ h => h) (Or.inl ⟨by rfl, ?_⟩) (by assumption) ?_
        rotate_left
        · (intro w hSw; (try dsimp only at hSw); go_simp; first | done | with_reducible rfl)
        try simp only [Act.put, List.setIfInBounds_toArray, List.set_cons_zero, List.set_cons_succ]
        refine wpAnyH_take (i := 13) (oi := ?_) (v := ?_) (by simp only [List.getElem?_toArray, List.getElem?_cons_zero, List.getElem?_cons_succ]; rfl) (by kernel_rfl) (by kernel_rfl) (by kernel_rfl) (by exact fun _ _ _ h => h) (Or.inl ⟨by rfl, ?_⟩) (by assumption) ?_
        rotate_left
        · (intro w hSw; (try dsimp only at hSw); go_simp; first | done | with_reducible rfl)
        try simp only [Act.put, List.setIfInBounds_toArray, List.set_cons_zero, List.set_cons_succ]
        refine wpAnyH_take (i := 14) (oi := ?_) (v := ?_) (by simp only [List.getElem?_toArray, List.getElem?_cons_zero, List.getElem?_cons_succ]; rfl) (by kernel_rfl) (by kernel_rfl) (by kernel_rfl) (by exact fun _ _ _ h => h) (Or.inl ⟨by rfl, ?_⟩) (by assumption) ?_
        rotate_left
        · (intro w hSw; (try dsimp only at hSw); go_simp; first | done | with_reducible rfl)
        try simp only [Act.put, List.setIfInBounds_toArray, List.set_cons_zero, List.set_cons_succ]
        refine wpAnyH_take (i := 15) (oi := ?_) (v := ?_) (by simp only [List.getElem?_toArray, List.getElem?_cons_zero, List.getElem?_cons_succ]; rfl) (by kernel_rfl) (by kernel_rfl) (by kernel_rfl) (by exact fun _ _ _ h => h) (Or.inl ⟨by rfl, ?_⟩) (by assumption) ?_
        rotate_left
        · (intro w hSw; (try dsimp only at hSw); go_simp; first | done | with_reducible rfl)
        try simp only [Act.put, List.setIfInBounds_toArray, List.set_cons_zero, List.set_cons_succ]
        refine wpAnyH_ready (rs := [16]) (by kernel_rfl) (by simp) ?_
        refine AllReadyH.cons (o := ?_) (by simp only [List.getElem?_toArray, List.getElem?_cons_zero, List.getElem?_cons_succ]; rfl) (fun K hK => ?_) ?_
        · go_simp
          refine (end_any B1 [] _ _ HR1.out).mono ?_
          rintro e w4 ⟨rfl, rfl⟩
          dsimp only
          refine hK.out _ _ ?_ (fun hHeld2 => ?_)
          · exact three_cell HD.out
          clear hK K hHeld
          have hHeld := hHeld2
          clear hHeld2
          try simp only [Act.put, List.setIfInBounds_toArray, List.set_cons_zero, List.set_cons_succ]
          refine wpAnyH_take (i := 17) (oi := ?_) (v := ?_) (by simp only [List.getElem?_toArray, List.getElem?_cons_zero, List.getElem?_cons_succ]; rfl) (by kernel_rfl) (by kernel_rfl) (by kernel_rfl) (by exact fun _ _ _ h => h) (Or.inl ⟨by rfl, ?_⟩) (by assumption) ?_
          rotate_left
          · (intro w hSw; (try dsimp only at hSw); go_simp; first | done | with_reducible rfl)
          try simp only [Act.put, List.setIfInBounds_toArray, List.set_cons_zero, List.set_cons_succ]
          refine wpAnyH_take (i := 18) (oi := ?_) (v := ?_) (by simp only [List.getElem?_toArray, List.getElem?_cons_zero, List.getElem?_cons_succ]; rfl) (by kernel_rfl) (by kernel_rfl) (by kernel_rfl) (by exact fun _ _ _ h => h) (Or.inl ⟨by rfl, ?_⟩) (by assumption) ?_
          rotate_left
          · (intro w hSw; (try dsimp only at hSw); go_simp; first | done | with_reducible rfl)
          try simp only [Act.put, List.setIfInBounds_toArray, List.set_cons_zero, List.set_cons_succ]
          refine wpAnyH_take (i := 19) (oi := ?_) (v := ?_) (by simp only [List.getElem?_toArray, List.getElem?_cons_zero, List.getElem?_cons_succ]; rfl) (by kernel_rfl) (by kernel_rfl) (by kernel_rfl) (by exact fun _ _ _ h => h) (Or.inl ⟨by rfl, ?_⟩) (by assumption) ?_
          rotate_left
          · (intro w hSw; (try dsimp only at hSw); go_simp; first | done | with_reducible rfl)
          try simp only [Act.put, List.setIfInBounds_toArray, List.set_cons_zero, List.set_cons_succ]
          refine wpAnyH_take (i := 20) (oi := ?_) (v := ?_) (by simp only [List.getElem?_toArray, List.getElem?_cons_zero, List.getElem?_cons_succ]; rfl) (by kernel_rfl) (by kernel_rfl) (by kernel_rfl) (by exact fun _ _ _ h => h) (Or.inl ⟨by rfl, ?_⟩) (by assumption) ?_
          rotate_left
          · (intro w hSw; (try dsimp only at hSw); go_simp; first | done | with_reducible rfl)
          try simp only [Act.put, List.setIfInBounds_toArray, List.set_cons_zero, List.set_cons_succ]
          refine wpAnyH_take (i := 23) (oi := ?_) (v := ?_) (by simp only [List.getElem?_toArray, List.getElem?_cons_zero, List.getElem?_cons_succ]; rfl) (by kernel_rfl) (by kernel_rfl) (by kernel_rfl) (by exact fun _ _ _ h => h) (Or.inl ⟨by rfl, ?_⟩) (by assumption) ?_
          rotate_left
          · (intro w hSw; (try dsimp only at hSw); go_simp; first | done | with_reducible rfl)
          try simp only [Act.put, List.setIfInBounds_toArray, List.set_cons_zero, List.set_cons_succ]
          refine wpAnyH_take (i := 24) (oi := ?_) (v := ?_) (by simp only [List.getElem?_toArray, List.getElem?_cons_zero, List.getElem?_cons_succ]; rfl) (by kernel_rfl) (by kernel_rfl) (by kernel_rfl) (by exact fun _ _ _ h => h) (Or.inl ⟨by rfl, ?_⟩) (by assumption) ?_
          rotate_left
          · (intro w hSw; (try dsimp only at hSw); go_simp; first | done | with_reducible rfl)
          try simp only [Act.put, List.setIfInBounds_toArray, List.set_cons_zero, List.set_cons_succ]
          refine wpAnyH_ready (rs := [21]) (by kernel_rfl) (by simp) ?_
          refine AllReadyH.cons (o := ?_) (by simp only [List.getElem?_toArray, List.getElem?_cons_zero, List.getElem?_cons_succ]; rfl) (fun K hK => ?_) ?_
          · go_simp
            refine (count_to _ [] n _ HQ0.out (nilB _) (by decide)).mono ?_
            rintro e w4 ⟨r4, rfl, ho, hb⟩
            obtain ⟨A4, c4, rfl, -⟩ := RdB.form ho.rd
            have hcr := run_str (P := Try.prog) 24 9 5 Try.underlying24 Try.underlying5 Try.underlying9 ho.rd
            have HB2 := As.mk (HB.out.trans (hb.mono HB.out.size))
            have HD2 := As.mk (blk_below HD.out hb)
            clear ho hb HB HD HR1
            have HB := HB2
            have HD := HD2
            clear HB2 HD2
            dsimp only
            refine hK.out _ _ ?_ (fun hHeld2 => ?_)
            · exact three_cell HD.out
            clear hK K hHeld
            have hHeld := hHeld2
            clear hHeld2
            try simp only [Act.put, List.setIfInBounds_toArray, List.set_cons_zero, List.set_cons_succ]
            refine wpAnyH_ready (rs := [22]) (by kernel_rfl) (by simp) ?_
            refine AllReadyH.cons (o := ?_) (by simp only [List.getElem?_toArray, List.getElem?_cons_zero, List.getElem?_cons_succ]; rfl) (fun K hK => ?_) ?_
            · go_simp
              refine hK.out _ _ ?_ (fun hHeld2 => ?_)
              · exact three_cell HD.out
              clear hK K hHeld
              have hHeld := hHeld2
              clear hHeld2
              try simp only [Act.put, List.setIfInBounds_toArray, List.set_cons_zero, List.set_cons_succ]
              refine wpAnyH_take (i := 25) (oi := ?_) (v := ?_) (by simp only [List.getElem?_toArray, List.getElem?_cons_zero, List.getElem?_cons_succ]; rfl) (by kernel_rfl) (by kernel_rfl) (by kernel_rfl) (by exact fun _ _ _ h => h) (Or.inl ⟨by rfl, ?_⟩) (by assumption) ?_
              rotate_left
              · (intro w hSw; (try dsimp only at hSw); go_simp; first | done | with_reducible rfl)
              try simp only [Act.put, List.setIfInBounds_toArray, List.set_cons_zero, List.set_cons_succ]
              refine wpAnyH_take (i := 26) (oi := ?_) (v := ?_) (by simp only [List.getElem?_toArray, List.getElem?_cons_zero, List.getElem?_cons_succ]; rfl) (by kernel_rfl) (by kernel_rfl) (by kernel_rfl) (by exact fun _ _ _ h => h) (Or.inl ⟨by rfl, ?_⟩) (by assumption) ?_
              rotate_left
              · (intro w hSw; (try dsimp only at hSw); go_simp; first | done | with_reducible rfl)
              try simp only [Act.put, List.setIfInBounds_toArray, List.set_cons_zero, List.set_cons_succ]
              refine wpAnyH_take (i := 27) (oi := ?_) (v := ?_) (by simp only [List.getElem?_toArray, List.getElem?_cons_zero, List.getElem?_cons_succ]; rfl) (by kernel_rfl) (by kernel_rfl) (by kernel_rfl) (by exact fun _ _ _ h => h) (Or.inl ⟨by rfl, ?_⟩) (by assumption) ?_
              rotate_left
              · (intro w hSw; (try dsimp only at hSw); go_simp; first | done | with_reducible rfl)
              try simp only [Act.put, List.setIfInBounds_toArray, List.set_cons_zero, List.set_cons_succ]
              refine wpAnyH_take (i := 28) (oi := ?_) (v := ?_) (by simp only [List.getElem?_toArray, List.getElem?_cons_zero, List.getElem?_cons_succ]; rfl) (by kernel_rfl) (by kernel_rfl) (by kernel_rfl) (by exact fun _ _ _ h => h) (Or.inl ⟨by rfl, ?_⟩) (by assumption) ?_
              rotate_left
              · (intro w hSw; (try dsimp only at hSw); go_simp; first | done | with_reducible rfl)
              try simp only [Act.put, List.setIfInBounds_toArray, List.set_cons_zero, List.set_cons_succ]
              refine wpAnyH_done (by kernel_rfl) ?_ _
              go_upto_region 9 with (fail)
              obtain ⟨A2, c2', W2, hcv2, hrd2, hb2⟩ := conv_bytes (P := Try.prog) 9 24 5 Try.underlying9 Try.underlying24 Try.underlying5 bs HML.out (w4)
              obtain ⟨k0, k1, k2⟩ := three_cell HD.out
              have HX2 := As.mk hrd2
              have HB2 := As.mk (HB.out.trans (hb2.mono HB.out.size))
              have HD2 := As.mk (blk_below HD.out hb2)
              clear hrd2 hb2 HB HD
              have HB := HB2
              have HD := HD2
              clear HB2 HD2
              go_wp2_with (first | (go_at_call 18; (with_reducible refine (read_any _ bs _ HX2.out HL.out).mono ?_); rintro e w' ⟨B2, rfl, hB, hr, hb⟩; have HNE2 := As.mk (show D ≠ B2 by have := blk_lt HD.out; omega); have HR2 := As.mk hr; have HBB2 := As.mk (Nat.le_trans HB.out.size hB); have HB2 := As.mk (HB.out.trans (hb.mono HB.out.size)); have HD2 := As.mk (blk_below HD.out hb); obtain ⟨e0, e1, e2⟩ := three_cell HD2.out; clear hr hb hB HB HD; have HB := HB2; have HD := HD2; clear HB2 HD2) | (go_at_call 21; (with_reducible refine (rcount_to B2 bs false ((n : Int) - 1) _ HLES.out HR2.out (by have := HLT.out; omega) (by have := HLT.out; omega)).mono ?_); rintro e wr2 ⟨rfl, hr1, hg1⟩; have HR3 := As.mk hr1; have HB2 := As.mk (below_grown HB.out hg1 HBB2.out HB.out.size); have HD2 := As.mk (blk_grown HD.out HNE2.out hg1); obtain ⟨g0, g1, g2⟩ := three_cell HD2.out; clear hr1 hg1 HR2 HB HD; have HR2 := HR3; have HB := HB2; have HD := HD2; clear HR3 HB2 HD2) | (go_at_call 23; (with_reducible refine (ok_any B2 [] true _ HR2.out).mono ?_); rintro e w' ⟨rfl, rfl⟩) | (go_at_call 24; (with_reducible refine (awake2_any _).mono ?_); rintro e w' ⟨rfl, hb⟩; have HB2 := As.mk (HB.out.trans (hb.mono HB.out.size)); clear hb))
              go_ret
              exact ⟨rfl, HB2.out⟩
            exact AllReadyH.nil
          exact AllReadyH.nil
        exact AllReadyH.nil
      exact AllReadyH.nil
end Go.Proofs.Ytfggkljgfadacaa.W
namespace Go.Proofs.Ytfggkljgfadacaa.W
open Go.RowKit
theorem wireForms_row (which : Int) (wn : (Lit.int .i64 which).wf = true) (w : World) :
    Calls Try.prog 5 #[.int .i64 which] w fun e w' => e = .returned (.bool true) ∧ Below w.heap.size w w' := wireForms_walk which w
end Go.Proofs.Ytfggkljgfadacaa.W
