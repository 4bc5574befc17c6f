/- append(b, make([]byte, m)...) to bytes of one's own. -/
import Derived.Test.YtfggkljgfadacaaT20
import Derived.Laws.IdiomCopy
import Derived.Lib.LazyBuf
set_option linter.unusedVariables false
set_option linter.unusedSimpArgs false
namespace Go.Proofs.Ytfggkljgfadacaa.B
open Go.RowKit
variable {P : Program}

theorem grown_any' {w w1 : World} {row : Option Nat} (h : Below w.heap.size w w1) : w.grownBy w1 row := ⟨h.os, h.tape, h.output, h.size, fun i hi _ => h.block i hi⟩
theorem run_appMake (w : World) (base : Nat) (t ty ti e : TypeId) (i : TypeInfo) {k : IntKind} (ht : P.underlying t = some (.slice e)) (hti : P.underlying ti = some (.int k)) (hi : P.info? e = some i) (hz : i.zero = some (.int .u8 0)) (hs : i.size = 1) (hb : i.bytes = 1)
    {A : Addr} {c : Nat} {bs : List UInt8} (hown : OwB w base e (.slice (some A) bs.length c) bs) (m : Nat) (hm : bs.length + m ≤ 1048576) (hbase : base ≤ w.heap.size) :
    ∃ v' w', (Builtin.append_ #[t, ti] ty #[.slice (some A) bs.length c, .int .i64 (m : Int)]).run P w = .ok v' w' ∧ OwB w' base e v' (bs ++ List.replicate m 0) ∧ w.grownBy w' (Value.ownBlock (.slice (some A) bs.length c)) ∧ (v'.ownBlock = Value.ownBlock (.slice (some A) bs.length c) ∨ ∃ b, v'.ownBlock = some b ∧ w.heap.size ≤ b) := by
  have hw : IntKind.i64.wrap (m : Int) = m := IntWalk.i64_in _ (by omega)
  have hneg : ¬ (m : Int) < 0 := by omega
  have hbig : ¬ (281474976710656 : Int) < (m : Int) := by omega
  have hzc : Builtin.zeroCells #[Value.int .u8 0] m = Array.replicate m (.int .u8 0) := by
    apply Array.ext
    · simp [Builtin.zeroCells]
    · intro j h1 h2
      simp [Builtin.zeroCells, Nat.mod_one]
  have hrd := hown.rd
  rcases hown.2 with ⟨q, hn⟩ | ⟨g, off, cap, cur, q, hbg, hg, hnc, hcm, hfit, htake⟩
  · cases q
  · injection q with e1 e2 e3
    injection e1 with e1
    subst e1 e3
    rcases Nat.eq_zero_or_pos m with rfl | hpos
    · have h0 : IntKind.i64.wrap 0 = 0 := by decide
      refine ⟨.slice (some ⟨g, off, none⟩) bs.length c, w, ?_, by simpa using hown, World.grownBy.refl w _, .inl rfl⟩
      simp [Builtin.append_, run_underlying ht, run_underlying hti, sizeOf, typeInfo, hi, hs, hb, h0, asInt, asIntOf, hnc, storeCells, Addr.add_lit]
    by_cases hroom : bs.length + m ≤ c
    · have hst := run_storeCells_at P g (off + bs.length) e (List.replicate m (Value.int .u8 0)) 0 cur w hg (by simp; omega) (by simp [Value.oneCell'])
      simp only [Nat.add_zero] at hst
      have hr : (Builtin.append_ #[t, ti] ty #[.slice (some ⟨g, off, none⟩) bs.length c, .int .i64 (m : Int)]).run P w = .ok (.slice (some ⟨g, off, none⟩) (bs.length + m) c)
          (w.setRow g (cur.toList.take (off + bs.length) ++ List.replicate m (Value.int .u8 0) ++ cur.toList.drop (off + bs.length + (List.replicate m (Value.int .u8 0)).length)).toArray) := by
        have hm0 : m ≠ 0 := by omega
        simp [Builtin.append_, run_underlying ht, run_underlying hti, sizeOf, typeInfo, hi, hs, hb, hw, hneg, hbig, asInt, asIntOf, hroom, hm0, zeroValue, hz, Value.cells, hzc, Addr.add_lit, hst]
      refine ⟨_, _, hr, ⟨by simp, .inr ⟨g, off, c, _, by rw [List.length_append, List.length_replicate], hbg, setRow_heap w g cur _ e _ hg, by simpa using hroom, hcm, ?_, ?_⟩⟩,
        ⟨rfl, rfl, rfl, by simp, fun k hk hne => setRow_other w g k _ (fun e => hne (by simp [Value.ownBlock, e]))⟩, .inl rfl⟩
      · simp only [List.size_toArray, List.length_append, List.length_take, List.length_drop, Array.length_toList, List.length_replicate]; omega
      · have hcl : cur.toList.length = cur.size := Array.length_toList
        apply List.ext_getElem?
        intro j
        simp only [List.getElem?_take, List.getElem?_drop, List.append_assoc, List.map_append, List.map_replicate, List.length_append, List.length_replicate, Nat.mul_one]
        by_cases hj : j < bs.length + m
        · rw [if_pos hj]
          by_cases hj1 : j < bs.length
          · rw [List.getElem?_append_left (by rw [List.length_take]; omega), List.getElem?_take_of_lt (by omega), List.getElem?_append_left (by simpa using hj1), ← htake, List.getElem?_take_of_lt (by omega), List.getElem?_drop]
          · rw [List.getElem?_append_right (by rw [List.length_take]; omega), List.length_take, List.getElem?_append_left (by simp; omega), List.getElem?_append_right (by simp; omega)]
            simp only [List.getElem?_replicate, List.length_map]
            rw [if_pos (by omega), if_pos (by omega)]
            rfl
        · rw [if_neg hj, List.getElem?_eq_none]
          simp; omega
    · have hm0 : m ≠ 0 := by omega
      obtain ⟨_, A', c', he, _, _, _, hcell⟩ := hrd
      injection he with e1 e2 e3
      subst e1 e3
      have hload := run_firstCells_some (P := P) w.drew 1 bs.length ⟨g, off, none⟩ bs.length c (bs.map u8v) (by simp) (hcell _ rfl)
      have hcap := grownCap_ge w (bs.length + m) c e
      have hcap2 := grownCap_le_maxLen w (bs.length + m) c e (by unfold maxLen; omega)
      have hbig2 : ¬ 281474976710656 < Builtin.nextslicecap (bs.length + m) c := by
        have := nextslicecap_le (need := bs.length + m) (old := c) (by omega)
        omega
      have hbig3 : ¬ (9223372036854775807 : Int) < (bs.length : Int) + m := by omega
      have hnf : (Question.appendCap (bs.length + m) c e).forced = false := rfl
      refine ⟨.slice (some ⟨w.heap.size, 0, none⟩) (bs.length + m) (grownCap w (bs.length + m) c e), w.drew.alloc (.cells ((bs.map u8v).toArray ++ (Array.replicate m (.int .u8 0) ++ Builtin.zeroCells #[.int .u8 0] (grownCap w (bs.length + m) c e - (bs.length + m)))) e), ?_, ?_, ?_, .inr ⟨w.heap.size, rfl, Nat.le_refl _⟩⟩
      · simp [Builtin.append_, run_underlying ht, run_underlying hti, sizeOf, typeInfo, hi, hs, hb, hw, hneg, hbig, asInt, asIntOf, hroom, hm0, zeroValue, hz, Value.cells, hzc, hbig2, hbig3, hload, newRow, hnf]
        exact ⟨rfl, rfl⟩
      · have hblk := heap_alloc_new w.drew (.cells ((bs.map u8v).toArray ++ (Array.replicate m (.int .u8 0) ++ Builtin.zeroCells #[.int .u8 0] (grownCap w (bs.length + m) c e - (bs.length + m)))) e)
        refine ⟨by simp, .inr ⟨w.heap.size, 0, grownCap w (bs.length + m) c e, _, by rw [List.length_append, List.length_replicate], hbase, hblk, by simpa using hcap, hcap2, ?_, ?_⟩⟩
        · simp [Builtin.zeroCells]; omega
        · simp only [Array.toList_append, List.drop_zero, Nat.mul_one, List.length_append, List.length_replicate, List.map_append, List.map_replicate]
          rw [← List.append_assoc, List.take_append_of_le_length (by simp), List.take_of_length_le (by simp)]
          simp [u8v]
      · exact grown_any' ((((Below.refl _ _).drew).alloc (Nat.le_refl _) _))
end Go.Proofs.Ytfggkljgfadacaa.B
namespace Go.Proofs.Ytfggkljgfadacaa.B
open Go.RowKit
variable {P : Program}
theorem wpList_appMake {w : World} {ops : Array Oper} {rest : List Oper} {o : Oper} {a : Act} {Q : Exit → Act → World → Prop} (base : Nat) (hgd : o.guard = none) (s x : Operand) (t ti e : TypeId) {k : IntKind}
    (ho : o.op = .call { callee := .builtin .append, args := #[s, x], argTypes := #[t, ti] })
    (ht : P.underlying t = some (.slice e)) (hti : P.underlying ti = some (.int k)) (hinfo : (P.info? e).map (fun i => (i.zero, i.size, i.bytes)) = some (some (.int .u8 0), 1, 1))
    {A : Addr} {n c : Nat} {bs : List UInt8} (m : Nat) (hs : a.eval s = .slice (some A) n c) (hx : a.eval x = .int .i64 (m : Int)) (hl : bs.length = n) (hown : OwB w base e (.slice (some A) n c) bs) (hm : n + m ≤ 1048576) (hbase : base ≤ w.heap.size)
    (h : ∀ v' w', OwB w' base e v' (bs ++ List.replicate m 0) → w.grownBy w' (some A.block) → wpList P ops Q rest (a.put o.dst v') w') :
    wpList P ops Q (o :: rest) a w := by
  subst hl
  obtain ⟨i, hi, hzz⟩ := Option.map_eq_some_iff.1 hinfo
  simp only [Prod.mk.injEq] at hzz
  obtain ⟨hz0, hz1, hz2⟩ := hzz
  obtain ⟨v', w', hr', h2, h3, _⟩ := run_appMake (P := P) w base t o.type ti e i ht hti hi hz0 hz1 hz2 hown m hm hbase
  refine wpList_plain hgd fun K hK => ?_
  unfold Oper.wp execOp
  simp only [ho, resolve, invoke, builtin, Sem.run_bind, Sem.run_pure, Result.andThen_ok, List.map_toArray, List.map_cons, List.map_nil, hs, hx, hr']
  exact hK _ _ (h v' w' h2 h3)
end Go.Proofs.Ytfggkljgfadacaa.B
