/- Two readers side by side; numbers and bytes that came in. -/
import Derived.Test.YtfggkljgfadacaaW6
import Derived.Test.YtfggkljgfadacaaBytes
set_option linter.unusedVariables false
set_option linter.unusedSimpArgs false
namespace Go.Proofs.Ytfggkljgfadacaa.W
open Go.RowKit Go.Proofs.Ytfggkljgfadacaa.B Go.Proofs

/-- Whole numbers that are read. -/
abbrev RdI (w : World) (v : Value) (l : List Int) : Prop := RdS w 1 v l.length (l.map (Value.int .i64))
theorem RdI.form {w : World} {v : Value} {l : List Int} (h : RdI w v l) : ∃ A c, v = .slice A l.length c ∧ l.length ≤ c ∧ c ≤ maxLen := by
  obtain ⟨_, A, c, h1, h2, h3, _⟩ := h
  exact ⟨A, c, h1, h2, h3⟩
theorem RdI.at {w : World} {A : Option Addr} {n c : Nat} {l : List Int} (h : RdI w (.slice A n c) l) (j : Nat) (hj : j < l.length) : ∃ ad, A = some ad ∧ w.cell? (ad.add j) = some (.int .i64 l[j]) := by
  obtain ⟨_, A', c', h1, h2, h3, h4, h5⟩ := h
  injection h1 with e1 e2 e3
  subst e1 e2 e3
  rcases A with _ | ad
  · have := h4 rfl; omega
  · exact ⟨ad, rfl, h5 ad rfl j _ (by simp [hj])⟩
theorem IsRow.rdI {w : World} {a : Option Addr} {len cap : Nat} {zs : List Int} (h : IsRow .i64 w a len cap zs) : ∃ l : List Int, l.length = len ∧ RdI w (.slice a len cap) l ∧ ∀ z ∈ l, -9223372036854775808 ≤ z ∧ z ≤ 9223372036854775807 := by
  obtain ⟨h1, h2, h3⟩ := h.rd
  refine ⟨zs.take len, h2, ?_, fun z hz => bounds_i64 (h3 z (List.mem_of_mem_take hz))⟩
  unfold RdI
  rw [h2]
  exact h1
/-- The program's reader in block B and the document's in block D, since the world W0. -/
structure Two (W0 W : World) (B D : Nat) (l : List UInt8) (b : Bool) (l' : List UInt8) (b' : Bool) : Prop where
  r : Rdr 74 W B l b
  s : Rdr 46 W D l' b'
  below : Below W0.heap.size W0 W
  hb : W0.heap.size ≤ B
  hd : W0.heap.size ≤ D
  ne : B ≠ D
theorem rdr_other {t : TypeId} {w w' : World} {B D : Nat} {l : List UInt8} {bad : Bool} (h : Rdr t w D l bad) {A : Option Addr} {n c : Nat} {y : Bool} {t2 : TypeId} (hB : w.heap[B]? = some (.cells #[.slice A n c, .bool y] t2 (0, 0))) (hg : w.grownBy w' (some B)) (hne : B ≠ D) : Rdr t w' D l bad := by
  have hlt := h.lt
  obtain ⟨A1, n1, c1, h1, h2, h3⟩ := h
  refine ⟨A1, n1, c1, ?_, h2.apart hB hg, h3⟩
  rw [hg.block D hlt (fun e => by injection e with e; exact hne e.symm)]
  exact h1
theorem Two.step1 {W0 W W' : World} {B D : Nat} {l l1 l' : List UInt8} {b b1 b' : Bool} (h : Two W0 W B D l b l' b') (hr : Rdr 74 W' B l1 b1) (hg : W.grownBy W' (some B)) : Two W0 W' B D l1 b1 l' b' := by
  obtain ⟨A, n, c, h1, h2, _⟩ := h.r
  exact ⟨hr, rdr_other h.s h1 hg h.ne, below_grown h.below hg h.hb h.below.size, h.hb, h.hd, h.ne⟩
theorem Two.step2 {W0 W W' : World} {B D : Nat} {l l' l1 : List UInt8} {b b' b1 : Bool} (h : Two W0 W B D l b l' b') (hr : Rdr 46 W' D l1 b1) (hg : W.grownBy W' (some D)) : Two W0 W' B D l b l1 b1 := by
  obtain ⟨A, n, c, h1, h2, _⟩ := h.s
  exact ⟨rdr_other h.r h1 hg (fun e => h.ne e.symm), hr, below_grown h.below hg h.hd h.below.size, h.hb, h.hd, h.ne⟩
theorem Two.keep2 {W0 W W' : World} {B D : Nat} {l l' : List UInt8} {b b' : Bool} (h : Two W0 W B D l b l' b') (hg : W.grownBy W' (some D)) {x : Value} {bs : List UInt8} (hx : RdB W x bs) : RdB W' x bs := h.s.keep hx hg
theorem Two.drew {W0 W : World} {B D : Nat} {l l' : List UInt8} {b b' : Bool} (h : Two W0 W B D l b l' b') : Two W0 W.drew B D l b l' b' := by
  obtain ⟨⟨A, n, c, h1, h2, k1⟩, ⟨A', n', c', h1', h2', k2⟩, h3, h4, h5, h6⟩ := h
  exact ⟨⟨A, n, c, h1, h2.drew, k1⟩, ⟨A', n', c', h1', h2'.drew, k2⟩, h3.drew, h4, h5, h6⟩
/-- A list of slices of bytes, in a block of its own. -/
structure Five (W : World) (G : Nat) (vs : List Value) (t : TypeId) : Prop where
  blk : W.heap[G]? = some (.cells vs.toArray t (0, 0))
  rd : ∀ v ∈ vs, ∃ l : List UInt8, RdB W v l ∧ l.length ≤ 100000
theorem Five.below {W W' : World} {G : Nat} {vs : List Value} {t : TypeId} (h : Five W G vs t) (hb : Below W.heap.size W W') : Five W' G vs t :=
  ⟨by rw [hb.block G (Array.getElem?_eq_some_iff.1 h.blk).1]; exact h.blk, fun v hv => by
    obtain ⟨l, h1, h2⟩ := h.rd v hv
    exact ⟨l, h1.below hb, h2⟩⟩
theorem Five.at {W : World} {G : Nat} {vs : List Value} {t : TypeId} (h : Five W G vs t) (k : Nat) (hk : k < vs.length) : ∃ A l c, vs[k] = .slice A l.length c ∧ W.cell? ⟨G, k, none⟩ = some (.slice A l.length c) ∧ RdB W (.slice A l.length c) l ∧ l.length ≤ 100000 := by
  obtain ⟨l, h1, h2⟩ := h.rd vs[k] (List.getElem_mem hk)
  obtain ⟨A, c, he, -⟩ := RdB.form h1
  refine ⟨A, l, c, he, ?_, by rw [← he]; exact h1, h2⟩
  simp only [World.cell?, h.blk]
  simp [hk, he]
theorem i64_mask (n m : Int) (k : Nat) (h : (BitVec.ofInt 64 m).toNat = 2 ^ k - 1) (hk : k ≤ 62) : bits .and .i64 n m = n % 2 ^ k := by
  have key : (BitVec.ofInt 64 n &&& BitVec.ofInt 64 m).toNat = (n % ((2 ^ 64 : Nat) : Int)).toNat % 2 ^ k := by
    rw [BitVec.toNat_and, BitVec.toNat_ofInt, h, Nat.and_two_pow_sub_one_eq_mod]
  show IntKind.i64.wrap ((BitVec.ofInt 64 n &&& BitVec.ofInt 64 m).toNat : Nat) = n % 2 ^ k
  have hle : (2 : Nat) ^ k ≤ 2 ^ 62 := Nat.pow_le_pow_right (by decide) hk
  have hlt : (n % ((2 ^ 64 : Nat) : Int)).toNat % 2 ^ k < 2 ^ k := Nat.mod_lt _ (Nat.two_pow_pos k)
  have hd : (2 : Int) ^ k ∣ ((2 ^ 64 : Nat) : Int) := by
    have : (2 ^ 64 : Nat) = 2 ^ k * 2 ^ (64 - k) := by rw [← Nat.pow_add]; congr 1; omega
    exact ⟨2 ^ (64 - k), by rw [this]; simp⟩
  rw [key, IntWalk.i64_in _ (by omega)]
  rw [Int.natCast_emod, Int.toNat_of_nonneg (Int.emod_nonneg _ (by decide))]
  rw [show ((2 ^ k : Nat) : Int) = 2 ^ k by simp]
  exact Int.emod_emod_of_dvd n hd
theorem rnum_le_len (k : Nat) (l : List UInt8) (b : Bool) : (rnum k l b).2.1.length ≤ l.length := by
  unfold rnum; split <;> simp
theorem qnum_le_len (k : Nat) (l : List UInt8) (b : Bool) : (qnum k l b).2.1.length ≤ l.length := qtake_le k l b
theorem qpre_le_len (l : List UInt8) (b : Bool) : (qpre l b).1.2.1.length ≤ l.length := by
  have h1 := qnum_le_len 1 l b
  unfold qpre
  simp only
  split
  · exact Nat.le_trans (qnum_le_len 2 _ _) h1
  · split
    · exact Nat.le_trans (qnum_le_len 4 _ _) h1
    · split <;> exact h1
theorem qcount_le_len (top : Int) (l : List UInt8) (b : Bool) : (qcount top l b).2.1.length ≤ l.length := by
  have h := qpre_le_len l b
  unfold qcount
  simp only
  split <;> exact h
theorem rpre_le_len (l : List UInt8) (b : Bool) : (rpre l b).1.2.1.length ≤ l.length := by
  have h1 := rnum_le_len 1 l b
  unfold rpre
  simp only
  split
  · exact Nat.le_trans (rnum_le_len 2 _ _) h1
  · split
    · exact Nat.le_trans (rnum_le_len 4 _ _) h1
    · split
      · simp
      · exact h1
theorem rcount_le_len (top : Int) (l : List UInt8) (b : Bool) : (rcount top l b).2.1.length ≤ l.length := by
  have h := rpre_le_len l b
  unfold rcount
  simp only
  split
  · simp
  · exact h
theorem rtake_le_len (n : Int) (l : List UInt8) (b : Bool) : (rtake n l b).2.1.length ≤ l.length := by
  unfold rtake; split <;> simp
/-- append(v, y...) of bytes, as a run's equation. -/
theorem run_appB (w : World) (base : Nat) (v : Value) (L : List UInt8) (hown : OwB w base 5 v L) (y : Value) (M : List UInt8) (hy : RdB w y M) (hlen : L.length + M.length ≤ 140737488355328) (hbase : base ≤ w.heap.size) :
    ∃ v' w', (Builtin.append_ #[24, 24] 24 #[v, y]).run Try.prog w = .ok v' w' ∧ OwB w' base 5 v' (L ++ M) ∧ w.grownBy w' v.ownBlock := by
  obtain ⟨i, hi, hzz⟩ := Option.map_eq_some_iff.1 info5
  simp only [Prod.mk.injEq] at hzz
  obtain ⟨hz0, hz1, hz2⟩ := hzz
  obtain ⟨v', w', hr, h2, h3, -⟩ := run_app (P := Try.prog) w base 24 24 5 i (.int .u8 0) 1 1 Try.underlying24 hi hz0 hz1 hz2 rfl (by decide) v L.length (L.map u8v) hown y M.length (M.map u8v) hy (u8v_one _) (by unfold maxLen; omega) (by omega) hbase
  refine ⟨v', w', hr, ?_, h3⟩
  unfold OwB
  rw [List.length_append, List.map_append]
  exact h2
/-- append(v, y...) of bytes, at a step of a region that draws its order. -/
theorem step_appB {ops : Array Oper} {o : Oper} {a : Act} {w : World} {K : Act → World → Prop} {Q : Exit → Act → World → Prop} {E : Prop} (hgd : o.guard = none) (s x : Operand) (ho : o.op = .call { callee := .builtin .append, args := #[s, x], argTypes := #[24, 24] }) (hty : o.type = 24)
    (base : Nat) (v : Value) (L : List UInt8) (hs : a.eval s = v) (hown : OwB w base 5 v L) (y : Value) (M : List UInt8) (hx : a.eval x = y) (hy : RdB w y M) (hlen : L.length + M.length ≤ 140737488355328) (hbase : base ≤ w.heap.size)
    (h : ∀ v' w', OwB w' base 5 v' (L ++ M) → w.grownBy w' v.ownBlock → K (a.put o.dst v') w') : if Region.wanted o (yielded ops a.tmps) = true then Oper.wp Try.prog o a w K Q else E := by
  obtain ⟨v', w', hr, h2, h3⟩ := run_appB w base v L hown y M hy hlen hbase
  have hw : Region.wanted o (yielded ops a.tmps) = true := by simp [Region.wanted, hgd]
  rw [if_pos hw]
  unfold Oper.wp execOp
  simp only [ho, resolve, invoke, builtin, Sem.run_bind, Sem.run_pure, Result.andThen_ok, List.map_toArray, List.map_cons, List.map_nil, hs, hx, hty, hr]
  exact h v' w' h2 h3
theorem OwB.below_of {w w' : World} {base : Nat} {v : Value} {L : List UInt8} (h : OwB w base 5 v L) (hg : w.grownBy w' v.ownBlock) {B : Nat} {w0 : World} (hb : Below B w0 w) (hB : B ≤ base) (hs : B ≤ w.heap.size) : Below B w0 w' :=
  hb.grown hg hs (fun k hk => Nat.le_trans hB (OwS.lt h k hk).1)
theorem end_to (B : Nat) (l : List UInt8) (bad : Bool) (w : World) {r : Bool} (hq : (!bad && l.isEmpty) = r) (h : Rdr 74 w B l bad) :
    Calls Try.prog 22 #[.pointer (some ⟨B, 0, none⟩)] w fun e w' => e = .returned (.bool r) ∧ w = w' := by
  rw [← hq]; exact end_any B l bad w h
theorem qend_to (B : Nat) (l : List UInt8) (bad : Bool) (w : World) {r : Bool} (hq : (!bad && l.isEmpty) = r) (h : Rdr 46 w B l bad) :
    Calls Try.prog 33 #[.pointer (some ⟨B, 0, none⟩)] w fun e w' => e = .returned (.bool r) ∧ w = w' := by
  rw [← hq]; exact qend_any B l bad w h
theorem ok_to (B : Nat) (l : List UInt8) (bad : Bool) (w : World) {r : Bool} (hq : (!bad) = r) (h : Rdr 74 w B l bad) :
    Calls Try.prog 23 #[.pointer (some ⟨B, 0, none⟩)] w fun e w' => e = .returned (.bool r) ∧ w = w' := by
  rw [← hq]; exact ok_any B l bad w h
/-- One step of both readers. -/
def Step (m : Nat) (l l3 : List UInt8) (b3 : Bool) (l' l4 : List UInt8) (b4 : Bool) : Prop := Sim l3 b3 l4 b4 ∧ l3.length ≤ l.length ∧ l4.length ≤ l'.length
theorem step_num (k : Nat) (hk : 1 ≤ k) {l l' : List UInt8} {b b' : Bool} (h : Sim l b l' b') : ∃ m l3 b3 l4 b4, rnum k l b = (m, l3, b3) ∧ qnum k l' b' = (m, l4, b4) ∧ Sim l3 b3 l4 b4 ∧ l3.length ≤ l.length ∧ l4.length ≤ l'.length := by
  obtain ⟨e, s⟩ := h.num k hk
  exact ⟨(rnum k l b).1, (rnum k l b).2.1, (rnum k l b).2.2, (qnum k l' b').2.1, (qnum k l' b').2.2, rfl, by rw [e], s, rnum_le_len k l b, qnum_le_len k l' b'⟩
theorem step_count (top : Int) {l l' : List UInt8} {b b' : Bool} (h : Sim l b l' b') : ∃ m l3 b3 l4 b4, rcount top l b = (m, l3, b3) ∧ qcount top l' b' = (m, l4, b4) ∧ Sim l3 b3 l4 b4 ∧ l3.length ≤ l.length ∧ l4.length ≤ l'.length := by
  obtain ⟨e, s⟩ := h.count top
  exact ⟨(rcount top l b).1, (rcount top l b).2.1, (rcount top l b).2.2, (qcount top l' b').2.1, (qcount top l' b').2.2, rfl, by rw [e], s, rcount_le_len top l b, qcount_le_len top l' b'⟩
theorem step_take (n : Int) {l l' : List UInt8} {b b' : Bool} (h : Sim l b l' b') : ∃ x l3 b3 l4 b4, rtake n l b = (x, l3, b3) ∧ qtake n l' b' = (x, l4, b4) ∧ Sim l3 b3 l4 b4 ∧ l3.length ≤ l.length ∧ l4.length ≤ l'.length := by
  obtain ⟨e, s⟩ := h.take n
  exact ⟨(rtake n l b).1, (rtake n l b).2.1, (rtake n l b).2.2, (qtake n l' b').2.1, (qtake n l' b').2.2, rfl, by rw [e], s, rtake_le_len n l b, qtake_le n l' b'⟩
end Go.Proofs.Ytfggkljgfadacaa.W
