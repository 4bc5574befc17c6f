/- append(b, make([]byte, m)...): bytes that are read, with m zeros behind; where there is room it writes. -/
import Derived.Test.YtfbfdmgnicgalaaConv
import Derived.Test.YtfbfdmgnicgalaaBytes
import Derived.Laws.IdiomCopy
import Derived.Lib.LazyBuf
set_option linter.unusedVariables false
set_option linter.unusedSimpArgs false
namespace Go.Proofs.Ytfbfdmgnicgalaa.B
open Go.RowKit
variable {P : Program}

theorem rdB_replicate {w : World} {g o n c m : Nat} {bs : List UInt8} (hl : bs.length = n) (hc : n + m ≤ c) (hm : c ≤ maxLen) (h0 : ∀ j u, (bs.map u8v)[j]? = some u → w.cell? ⟨g, o + j, none⟩ = some u) (h1 : ∀ j, j < m → w.cell? ⟨g, o + n + j, none⟩ = some (.int .u8 0)) :
    RdB w (.slice (some ⟨g, o, none⟩) (n + m) c) (bs ++ List.replicate m 0) := by
  have hll : (bs ++ List.replicate m (0 : UInt8)).length = n + m := by simp [hl]
  refine ⟨by simp, _, c, by rw [hll], by rw [hll]; exact hc, hm, (fun h => by cases h), ?_⟩
  rintro ad had j u hu
  obtain rfl := Option.some.inj had
  rw [Addr.add_lit]
  rw [List.map_append] at hu
  by_cases hj : j < n
  · rw [List.getElem?_append_left (by simp [hl]; exact hj)] at hu
    exact h0 j u hu
  · rw [List.getElem?_append_right (by simp [hl]; omega)] at hu
    simp only [List.length_map, hl, List.map_replicate] at hu
    have hlt : j - n < m := by
      rcases Nat.lt_or_ge (j - n) m with h | h
      · exact h
      · rw [List.getElem?_eq_none (by simp; exact h)] at hu; cases hu
    rw [List.getElem?_replicate, if_pos hlt] at hu
    obtain rfl := Option.some.inj hu
    have := h1 (j - n) hlt
    rw [show o + n + (j - n) = o + j by omega] at this
    exact this
theorem app_make (t ty ti e : TypeId) (i : TypeInfo) {k : IntKind} (ht : P.underlying t = some (.slice e)) (hti : P.underlying ti = some (.int k)) (hi : P.info? e = some i) (hz : i.zero = some (.int .u8 0)) (hs : i.size = 1) (hb : i.bytes = 1)
    {w : World} {g o n c : Nat} {bs : List UInt8} (hl : bs.length = n) (hr : RdB w (.slice (some ⟨g, o, none⟩) n c) bs) (hc : ∀ j, n ≤ j → j < c → (w.cell? ⟨g, o + j, none⟩).isSome = true) (hf : ∀ j, n ≤ j → j < c → w.frozen? ⟨g, o + j, none⟩ = false)
    (m : Nat) (hm : n + m ≤ 1048576) :
    ∃ v' w', (Builtin.append_ #[t, ti] ty #[.slice (some ⟨g, o, none⟩) n c, .int .i64 (m : Int)]).run P w = .ok v' w' ∧ RdB w' v' (bs ++ List.replicate m 0) ∧ (w.heap.size ≤ w'.heap.size ∧ ∀ B, B ≤ w.heap.size → B ≤ g → ∀ w0, Below B w0 w → Below B w0 w') := by
  subst hl
  obtain ⟨_, A', c', he, hnc, hcm, _, hcell⟩ := hr
  injection he with e1 e2 e3
  subst e1 e3
  have hcell' : ∀ j u, (bs.map u8v)[j]? = some u → w.cell? ⟨g, o + j, none⟩ = some u := fun j u hu => by
    have := hcell _ rfl j u hu
    rwa [Addr.add_lit] at this
  have hw : IntKind.i64.wrap (m : Int) = m := IntWalk.i64_in _ (by omega)
  have hneg : ¬ (m : Int) < 0 := by omega
  have hbig : ¬ (281474976710656 : Int) < (m : Int) := by omega
  have hzc : Builtin.zeroCells #[Value.int .u8 0] m = Array.replicate m (.int .u8 0) := by
    apply Array.ext
    · simp [Builtin.zeroCells]
    · intro j h1 h2
      simp [Builtin.zeroCells, Nat.mod_one]
  by_cases hroom : bs.length + m ≤ c
  · have hst := run_storeCells_cells (P := P) g (o + bs.length) (List.replicate m (Value.int .u8 0)) 0 w (fun j hj => by simp at hj; simpa [Nat.add_assoc] using hc (bs.length + j) (by omega) (by omega)) (fun j hj => by simp at hj; simpa [Nat.add_assoc] using hf (bs.length + j) (by omega) (by omega)) (by simp [Value.oneCell'])
    refine ⟨.slice (some ⟨g, o, none⟩) (bs.length + m) c, w.setCells g (o + bs.length) (List.replicate m (.int .u8 0)), ?_, ?_, ?_⟩
    · rcases Nat.eq_zero_or_pos m with rfl | hpos
      · have h0 : IntKind.i64.wrap 0 = 0 := by decide
        simp only [Nat.add_zero] at hroom
        simp [Builtin.append_, run_underlying ht, run_underlying hti, sizeOf, typeInfo, hi, hs, hb, h0, asInt, asIntOf, hroom, storeCells, Addr.add_lit, World.setCells]
      · have hm0 : m ≠ 0 := by omega
        simp only [Nat.add_zero] at hst
        simp [Builtin.append_, run_underlying ht, run_underlying hti, sizeOf, typeInfo, hi, hs, hb, hw, hneg, hbig, asInt, asIntOf, hroom, hm0, zeroValue, hz, Value.cells, hzc, Addr.add_lit, hst]
    · refine rdB_replicate rfl hroom hcm (fun j u hu => ?_) (fun j hj => ?_)
      · rw [World.cell?_setCells_out]
        · exact hcell' j u hu
        · intro _ _
          left
          have : j < bs.length := by
            rcases Nat.lt_or_ge j bs.length with h | h
            · exact h
            · rw [List.getElem?_eq_none (by simpa using h)] at hu; cases hu
          show o + j < o + bs.length
          omega
      · have := World.cell?_setCells_in g (List.replicate m (Value.int .u8 0)) (o + bs.length) w (fun j hj => by simp at hj; simpa [Nat.add_assoc] using hc (bs.length + j) (by omega) (by omega)) j (by simpa using hj)
        rw [this]
        simp
    · exact ⟨(Go.below_setCells (B := 0) (Nat.zero_le _) _ _ w (Below.refl 0 w)).size, fun B h1 h2 w0 h3 => Go.below_setCells h2 _ _ _ h3⟩
  · have hm0 : m ≠ 0 := by omega
    have hload := run_firstCells_some (P := P) w.drew 1 bs.length ⟨g, o, none⟩ bs.length c (bs.map u8v) (by simp) (hcell _ rfl)
    have hcap := grownCap_ge w (bs.length + m) c e
    have hcap2 := grownCap_le_maxLen w (bs.length + m) c e (by unfold maxLen; omega)
    have hbig2 : ¬ 281474976710656 < Builtin.nextslicecap (bs.length + m) c := by
      have := nextslicecap_le (need := bs.length + m) (old := c) (by omega)
      omega
    have hbig3 : ¬ (9223372036854775807 : Int) < (bs.length : Int) + m := by omega
    have hnf : (Question.appendCap (bs.length + m) c e).forced = false := rfl
    refine ⟨.slice (some ⟨w.heap.size, 0, none⟩) (bs.length + m) (grownCap w (bs.length + m) c e), w.drew.alloc (.cells ((bs.map u8v).toArray ++ (Array.replicate m (.int .u8 0) ++ Builtin.zeroCells #[.int .u8 0] (grownCap w (bs.length + m) c e - (bs.length + m)))) e), ?_, ?_, ?_⟩
    · simp [Builtin.append_, run_underlying ht, run_underlying hti, sizeOf, typeInfo, hi, hs, hb, hw, hneg, hbig, asInt, asIntOf, hroom, hm0, zeroValue, hz, Value.cells, hzc, hbig2, hbig3, hload, newRow, hnf]
      exact ⟨rfl, rfl⟩
    · have hblk := heap_alloc_new w.drew (.cells ((bs.map u8v).toArray ++ (Array.replicate m (.int .u8 0) ++ Builtin.zeroCells #[.int .u8 0] (grownCap w (bs.length + m) c e - (bs.length + m)))) e)
      have hcl : ∀ q, (w.drew.alloc (.cells ((bs.map u8v).toArray ++ (Array.replicate m (.int .u8 0) ++ Builtin.zeroCells #[.int .u8 0] (grownCap w (bs.length + m) c e - (bs.length + m)))) e)).cell? ⟨w.heap.size, q, none⟩ = ((bs.map u8v).toArray ++ (Array.replicate m (.int .u8 0) ++ Builtin.zeroCells #[.int .u8 0] (grownCap w (bs.length + m) c e - (bs.length + m))))[q]? := fun q => by
        unfold World.cell?
        rw [show w.heap.size = w.drew.heap.size from rfl, hblk]
        rfl
      refine rdB_replicate (o := 0) rfl hcap hcap2 (fun j u hu => ?_) (fun j hj => ?_)
      · have hj : j < bs.length := by
          rcases Nat.lt_or_ge j bs.length with h | h
          · exact h
          · rw [List.getElem?_eq_none (by simpa using h)] at hu; cases hu
        rw [hcl, Nat.zero_add, Array.getElem?_append_left (by simpa using hj), List.getElem?_toArray]
        exact hu
      · rw [hcl, Nat.zero_add, Array.getElem?_append_right (by simp), Array.getElem?_append_left (by simpa using hj)]
        simp [hj]
    · refine ⟨by simp, fun B h1 h2 w0 h3 => ?_⟩
      exact h3.drew.alloc h1 _
/-- '[]byte(s)', its new row told: what lies behind the bytes may be written. -/
theorem conv_own (src dst e : TypeId) {u : TypeDesc} (hs : P.underlying src = some u) (hd : P.underlying dst = some (.slice e)) (he : P.underlying e = some (.int .u8)) (bs : List UInt8) (hl : bs.length ≤ maxLen) (w : World) :
    ∃ c W', (convert src dst (.string ⟨bs.toArray⟩)).run P w = .ok (.slice (some ⟨w.heap.size, 0, none⟩) bs.length c) W' ∧ RdB W' (.slice (some ⟨w.heap.size, 0, none⟩) bs.length c) bs ∧ Below w.heap.size w W' ∧
      (∀ j, bs.length ≤ j → j < c → (W'.cell? ⟨w.heap.size, 0 + j, none⟩).isSome = true) ∧ (∀ j, bs.length ≤ j → j < c → W'.frozen? ⟨w.heap.size, 0 + j, none⟩ = false) := by
  obtain ⟨A, c, W', hr, hrd, hb⟩ := conv_bytes (P := P) src dst e hs hd he bs hl w
  have hr' := Go.Lib.run_convert_string_bytes (P := P) w src dst e ⟨bs.toArray⟩ hs hd he
  have hsz : (⟨bs.toArray⟩ : ByteArray).size = bs.length := rfl
  rw [hr, hsz] at hr'
  injection hr' with h1 h2
  injection h1 with h1 _ h3
  subst h1 h2 h3
  have hnew := Go.Lib.bytesWorld_at_new w e ⟨bs.toArray⟩
  have hcz : (Go.Lib.bytesCells w e ⟨bs.toArray⟩).size = grownCap w bs.length 0 e := by
    have := grownCap_ge w bs.length 0 e
    simp only [Go.Lib.bytesCells, Array.size_append, Array.size_map, Array.size_replicate, hsz]
    show bs.toArray.size + _ = _
    simp
    omega
  refine ⟨_, _, hr, hrd, hb, fun j h1 h2 => ?_, fun j h1 h2 => ?_⟩
  · simp only [World.cell?, hnew, Nat.zero_add]
    simp [hcz, h2]
  · simp only [World.frozen?, hnew, Nat.zero_add]
    simp [hcz]
    omega
theorem wpList_made {w : World} {ops : Array Oper} {rest : List Oper} {o : Oper} {a : Act} {Q : Exit → Act → World → Prop} (hgd : o.guard = none) (s x : Operand) (t ti e : TypeId) {k : IntKind}
    (ho : o.op = .call { callee := .builtin .append, args := #[s, x], argTypes := #[t, ti] })
    (ht : P.underlying t = some (.slice e)) (hti : P.underlying ti = some (.int k)) (hinfo : (P.info? e).map (fun i => (i.zero, i.size, i.bytes)) = some (some (.int .u8 0), 1, 1))
    {g off n c m : Nat} {bs : List UInt8} (hs : a.eval s = .slice (some ⟨g, off, none⟩) n c) (hx : a.eval x = .int .i64 (m : Int)) (hl : bs.length = n) (hr : RdB w (.slice (some ⟨g, off, none⟩) n c) bs)
    (hc : ∀ j, n ≤ j → j < c → (w.cell? ⟨g, off + j, none⟩).isSome = true) (hf : ∀ j, n ≤ j → j < c → w.frozen? ⟨g, off + j, none⟩ = false) (hm : n + m ≤ 1048576)
    (h : ∀ v' w', RdB w' v' (bs ++ List.replicate m 0) → (w.heap.size ≤ w'.heap.size ∧ ∀ B, B ≤ w.heap.size → B ≤ g → ∀ w0, Below B w0 w → Below B w0 w') → wpList P ops Q rest (a.put o.dst v') w') :
    wpList P ops Q (o :: rest) a w := by
  obtain ⟨i, hi, hzz⟩ := Option.map_eq_some_iff.1 hinfo
  simp only [Prod.mk.injEq] at hzz
  obtain ⟨hz0, hz1, hz2⟩ := hzz
  obtain ⟨v', w', hr', h2, h3⟩ := app_make (P := P) t o.type ti e i ht hti hi hz0 hz1 hz2 hl hr hc hf m hm
  refine wpList_plain hgd fun K hK => ?_
  unfold Oper.wp execOp
  simp only [ho, resolve, invoke, builtin, Sem.run_bind, Sem.run_pure, Result.andThen_ok, List.map_toArray, List.map_cons, List.map_nil, hs, hx, hr']
  exact hK _ _ (h v' w' h2 h3)
end Go.Proofs.Ytfbfdmgnicgalaa.B
