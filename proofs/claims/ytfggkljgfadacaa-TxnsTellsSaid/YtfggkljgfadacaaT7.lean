/- txns.id: the next 32 bytes. -/
import Derived.Test.YtfggkljgfadacaaT6
import Derived.Laws.CopyOwn
set_option linter.unusedVariables false
set_option linter.unusedSimpArgs false
namespace Go.Proofs.Ytfggkljgfadacaa.W
open Go.RowKit Go.Proofs.Ytfggkljgfadacaa.B Go.Proofs

/-- What is copied over 32 zeros. -/
def pad32 (x : List UInt8) : List UInt8 := x ++ List.replicate (32 - x.length) 0
def Z32 : List Value := (List.replicate 32 (0 : UInt8)).map u8v
theorem pad32_cells (x : List UInt8) (h : x.length ≤ 32) : splice Z32 0 (x.map u8v) = (pad32 x).map u8v := by
  unfold splice pad32 Z32
  simp only [List.take_zero, List.nil_append, List.length_map, Nat.zero_add, List.map_append, ← List.map_drop, List.drop_replicate]
theorem pad32_length (x : List UInt8) (h : x.length ≤ 32) : (pad32 x).length = 32 := by unfold pad32; simp; omega
theorem rtake_len (n : Nat) (l : List UInt8) (bad : Bool) : (rtake n l bad).1.length ≤ n := by
  unfold rtake; split
  · simp
  · simp; omega
theorem Rdr.low {t : TypeId} {w W : World} {B N : Nat} {l : List UInt8} {bad : Bool} (h : Rdr t w B l bad) (hb : Below N w W) (hN : B < N) : Rdr t W B l bad := by
  obtain ⟨A, n, c, h1, h2, h3⟩ := h
  refine ⟨A, n, c, ?_, ?_, h3⟩
  · rw [hb.block B hN]
    exact h1
  · obtain ⟨hl, A', c', he, k1, k2, k3, k4⟩ := h2
    injection he with e1 e2 e3
    subst e1 e2 e3
    refine ⟨hl, A, c, rfl, k1, k2, k3, fun ad had j u hu => ?_⟩
    have hc := k4 ad had j u hu
    have hn : l.length ≠ 0 := by
      have := (List.getElem?_eq_some_iff.1 hu).1
      simp at this
      omega
    have hlt := h3 hn ad had
    have e : (ad.add j).block = ad.block := by unfold Addr.add; split <;> rfl
    exact (hb.cell (by omega)).trans hc
theorem range_of_block {w : World} {g : Nat} {cs : List Value} {t : TypeId} (h : w.heap[g]? = some (.cells cs.toArray t (0, 0))) : w.rangeAt g 0 cs := fun j v hv => by
  rw [Nat.zero_add]
  exact Box.cell h j v (by simpa using hv)

set_option maxHeartbeats 4000000 in
set_option maxRecDepth 100000 in
theorem id_to (B : Nat) (l : List UInt8) (bad : Bool) (w : World) {x : List UInt8} {l' : List UInt8} {bad' : Bool} (hq : rtake 32 l bad = (x, l', bad')) (h : Rdr 74 w B l bad) (hl : l.length ≤ 140737488355328) :
    Calls Try.prog 99 #[.pointer (some ⟨B, 0, none⟩)] w fun e w' => e = .returned (.agg ((pad32 x).map u8v).toArray) ∧ Rdr 74 w' B l' bad' ∧ w.grownBy w' (some B) := by
  have HX32 : As (x.length ≤ 32) := ⟨by have := rtake_len 32 l bad; have e : ((32 : Nat) : Int) = 32 := rfl; rw [e, hq] at this; exact this⟩
  have HQ := As.mk hq
  have HR := As.mk h
  have HL := As.mk hl
  have HBL := As.mk h.lt
  clear hq h hl
  go_enter Try.func99, Try.ntmps99
  go_upto_region 2 with (fail)
  have HW : As (Box ((w.alloc (.cells Z32.toArray 53)).alloc (.cells Z32.toArray 53)) w.heap.size Z32.toArray 53 ∧ Box ((w.alloc (.cells Z32.toArray 53)).alloc (.cells Z32.toArray 53)) (w.heap.size + 1) Z32.toArray 53 ∧ Below w.heap.size w ((w.alloc (.cells Z32.toArray 53)).alloc (.cells Z32.toArray 53))) :=
    ⟨(Box.new w _ _).below ((Below.refl _ _).alloc (Nat.le_refl _) _), by have := Box.new (w.alloc (.cells Z32.toArray 53)) Z32.toArray 53; simpa using this, ((Below.refl _ _).alloc (Nat.le_refl _) _).alloc (by simp) _⟩
  change Code.wp _ _ _ _ ((w.alloc (.cells Z32.toArray 53)).alloc (.cells Z32.toArray 53))
  generalize ((w.alloc (.cells Z32.toArray 53)).alloc (.cells Z32.toArray 53)) = W1 at HW ⊢
  have HR1 := As.mk (HR.out.below HW.out.2.2)
  have HS1 := As.mk HW.out.2.1.lt
  refine wp_region_any (by kernel_rfl) ?_
  try (change wpAny _ _ _ _ _ _ _ (World.drew _))
  refine wpAny_take (i := 0) (oi := ?_) (v := ?_) (by simp only [List.getElem?_toArray, List.getElem?_cons_zero, List.getElem?_cons_succ]; rfl) (by kernel_rfl) (by kernel_rfl) (by kernel_rfl) (by exact fun _ _ _ h => h) (Or.inl ⟨by rfl, ?_⟩) ?_
  rotate_left
  · (intro w; go_simp; first | done | with_reducible rfl)
  try simp only [Act.put, List.setIfInBounds_toArray, List.set_cons_zero, List.set_cons_succ]
  refine wpAny_take (i := 1) (oi := ?_) (v := ?_) (by simp only [List.getElem?_toArray, List.getElem?_cons_zero, List.getElem?_cons_succ]; rfl) (by kernel_rfl) (by kernel_rfl) (by kernel_rfl) (by exact fun _ _ _ h => h) (Or.inl ⟨by rfl, ?_⟩) ?_
  rotate_left
  · (intro w; go_simp; first | done | with_reducible rfl)
  try simp only [Act.put, List.setIfInBounds_toArray, List.set_cons_zero, List.set_cons_succ]
  refine wpAny_ready (rs := [2]) (by kernel_rfl) (by simp) ?_
  refine AllReady.cons (o := ?_) (by simp only [List.getElem?_toArray, List.getElem?_cons_zero, List.getElem?_cons_succ]; rfl) (fun K hK => ?_) ?_
  · go_simp
    refine (rtake_to B l bad 32 _ HQ.out (Rdr.below HR1.out (Below.refl _ _).drew) HL.out).mono ?_
    rintro e w3 ⟨r3, rfl, ho, hr, hg⟩
    obtain ⟨A3, c3, rfl, -⟩ := RdB.form ho.rd
    have HO3 := As.mk ho.rd
    have HR3 := As.mk hr
    have HG3 := As.mk hg
    have HB0 := As.mk (show Box w3 w.heap.size Z32.toArray 53 from Box.grown (w := W1) HW.out.1 ⟨hg.os, hg.tape, hg.output, hg.size, hg.block⟩ (fun e => by injection e with e; have := HBL.out; omega))
    have HB1 := As.mk (show Box w3 (w.heap.size + 1) Z32.toArray 53 from Box.grown (w := W1) HW.out.2.1 ⟨hg.os, hg.tape, hg.output, hg.size, hg.block⟩ (fun e => by injection e with e; have := HBL.out; omega))
    clear ho hr hg
    dsimp only
    refine hK _ _ ?_
    clear hK K
    try simp only [Act.put, List.setIfInBounds_toArray, List.set_cons_zero, List.set_cons_succ]
    refine wpAny_ready (rs := [3]) (by kernel_rfl) (by simp) ?_
    refine AllReady.cons (o := ?_) (by simp only [List.getElem?_toArray, List.getElem?_cons_zero, List.getElem?_cons_succ]; rfl) (fun K hK => ?_) ?_
    · refine step_copy_splice ?hgd (.tmp 4) (.tmp 6) 24 24 ?ho 5 Try.underlying24 size5 (some ⟨w.heap.size + 1, 0, none⟩) A3 32 32 x.length c3 ?hd ?hs (w.heap.size + 1) 0 Z32 53 HB1.out (x.map u8v) ?hn ?hpos ?hfit (u8v_one _) (w.heap.size + 1) w3 (Below.refl _ _) (Nat.le_refl _) ?_
      case hgd => rfl
      case ho => rfl
      case hd => rfl
      case hs => rfl
      case hn => have := HX32.out; rw [List.length_map]; exact (Nat.min_eq_left this).symm
      case hpos => intro hp; refine ⟨rfl, ?_⟩; obtain ⟨_, A', c', he, k1, k2, k3, k4⟩ := HO3.out; injection he with e1 e2 e3; subst e1 e3; rcases A3 with _ | ad; (have := k3 rfl; simp at hp; omega); exact ⟨ad, rfl, k4 ad rfl⟩
      case hfit => have := HX32.out; simp [Z32]; omega
      intro w4 hh hb4
      have HH4 : As (Box w4 (w.heap.size + 1) ((pad32 x).map u8v).toArray 53) := ⟨by have h := hh; rw [pad32_cells x HX32.out] at h; exact h⟩
      have HB4 := As.mk hb4
      have HZ4 : As (Box w4 w.heap.size Z32.toArray 53) := ⟨by unfold Box; rw [hb4.block _ (by omega)]; exact HB0.out⟩
      clear hh hb4
      refine hK _ _ ?_
      clear hK K
      try simp only [Act.put, List.setIfInBounds_toArray, List.set_cons_zero, List.set_cons_succ]
      refine wpAny_done (by kernel_rfl) ?_ _
      have HP32 : As (((pad32 x).map u8v).length = 32) := ⟨by rw [List.length_map]; exact pad32_length x HX32.out⟩
      have HRG := As.mk (range_of_block HH4.out)
      obtain ⟨cells, hcells⟩ : ∃ cs, cs = (pad32 x).map u8v := ⟨_, rfl⟩
      have HCE := As.mk hcells
      have HONE : As (∀ v ∈ cells, v.oneCell' = true) := ⟨by subst hcells; exact u8v_one _⟩
      rw [← hcells] at HP32 HRG
      clear hcells
      go_wp2_with (first | ((with_reducible refine wpList_load_mid (op := ⟨_, .load 53 (.tmp 3), _, _, _, _⟩) ?hgd 53 (.tmp 3) rfl _ _ ?hx cells _ HRG.out Try.underlying53 rfl ?hi ?_); (case hgd => exact rfl); (case hx => exact rfl); (case hi => rw [HP32.out]; kernel_rfl)) | (with_reducible refine wpList_store_row (o := ⟨_, .store 53 (.tmp 2) (.tmp 8), _, _, _, _⟩) ?hgd 53 (.tmp 2) (.tmp 8) rfl w.heap.size cells.toArray ?hx ?hy 53 Z32.toArray ?hg ?hi ?hold ?h1 ?_); (case hgd => exact rfl); (case hg => exact HZ4.out); (case hx => exact rfl); (case hy => exact rfl); (case hi => rw [List.size_toArray, HP32.out]; kernel_rfl); (case hold => simp only [List.size_toArray]; rw [HP32.out]; exact rfl); (case h1 => exact all_oneCell_toArray HONE.out))
      refine bodyPost_ret (results_cell_row (ty := 53) rfl _ _ w.heap.size 53 cells.toArray (0, 0) _ ?hp ?hg Try.underlying53 rfl ?hi) ?hd ?_
      case hp => exact rfl
      case hg => exact setRow_heap w4 w.heap.size _ _ 53 _ HZ4.out
      case hi => rw [List.size_toArray, HP32.out]; kernel_rfl
      case hd => exact rfl
      have hB5 : Below w.heap.size w3 (w4.setRow w.heap.size cells.toArray) := below_setRow (HB4.out.mono (by omega)) (Nat.le_refl _) _
      refine ⟨by rw [HCE.out], Rdr.low HR3.out hB5 HBL.out, ?_⟩
      have h1 := HW.out.2.2; have h3 := HG3.out
      refine ⟨hB5.os.trans (h3.os.trans h1.os), hB5.tape.trans (h3.tape.trans h1.tape), hB5.output.trans (h3.output.trans h1.output), Nat.le_trans h1.size (Nat.le_trans h3.size hB5.size), fun i hi hne => ?_⟩
      rw [hB5.block i hi, h3.block i (Nat.lt_of_lt_of_le hi h1.size) hne]
      exact h1.block i hi
    exact AllReady.nil
  exact AllReady.nil
end Go.Proofs.Ytfggkljgfadacaa.W
