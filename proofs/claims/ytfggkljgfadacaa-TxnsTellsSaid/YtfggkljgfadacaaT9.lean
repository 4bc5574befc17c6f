/- txns.outs: the next outputs; rows of structs that are one's own. -/
import Derived.Test.YtfggkljgfadacaaT8
set_option linter.unusedVariables false
set_option linter.unusedSimpArgs false
namespace Go.Proofs.Ytfggkljgfadacaa.W
open Go.RowKit Go.Proofs.Ytfggkljgfadacaa.B Go.Proofs

/-- A row of one's own, each element so many cells of which E is told, the row's own block in hand. -/
def OwG {α : Type} (E : World → Option Nat → List Value → α → Prop) (e : TypeId) (size : Nat) (w : World) (base : Nat) (v : Value) (ys : List α) : Prop :=
  ∃ zs : List Value, OwS w base e size v ys.length zs ∧ ∀ (i : Nat) (y : α), ys[i]? = some y → E w v.ownBlock ((zs.drop (i * size)).take size) y
section
variable {α : Type} {E : World → Option Nat → List Value → α → Prop} {e : TypeId} {size : Nat} {w w' : World} {base : Nat} {v v' : Value} {ys : List α}
theorem OwG.nil : OwG E e size w base (.slice none 0 0) [] := ⟨[], OwS.nil _ _ _ _, fun i b h => by simp at h⟩
theorem OwG.lt (h : OwG E e size w base v ys) (k : Nat) (hk : v.ownBlock = some k) : base ≤ k ∧ k < w.heap.size := by
  obtain ⟨us, h1, _⟩ := h
  exact h1.lt k hk
theorem part_length {zs : List Value} {n i : Nat} (hz : zs.length = n * size) (hi : i < n) : ((zs.drop (i * size)).take size).length = size := by
  rw [List.length_take, List.length_drop, hz]
  have : i * size + size ≤ n * size := by rw [← Nat.succ_mul]; exact Nat.mul_le_mul_right _ hi
  omega
theorem OwG.rd {R : World → List Value → α → Prop} (hE : ∀ w own cs y, E w own cs y → R w cs y) (h : OwG E e size w base v ys) : RdL R size w v ys := by
  obtain ⟨zs, h1, h2⟩ := h
  have hrd := h1.rd
  obtain ⟨hl, A, c, rfl, k1, k2, k3, k4⟩ := hrd
  refine ⟨A, c, rfl, k1, k2, k3, fun ad had _ => ?_⟩
  have hn : ∃ g o, ad = ⟨g, o, none⟩ := by
    rcases h1.2 with ⟨e, _⟩ | ⟨g, off, cap, cur, e, _⟩
    · injection e with e; rw [e] at had; cases had
    · injection e with e; rw [e] at had; exact ⟨g, off, (Option.some.inj had).symm⟩
  obtain ⟨g, o, rfl⟩ := hn
  refine ⟨g, o, rfl, fun j x hx => ⟨_, part_length hl (List.getElem?_eq_some_iff.1 hx).1, hE _ _ _ _ (h2 j x hx), fun i u hu => ?_⟩⟩
  rw [List.getElem?_take] at hu
  split at hu
  · rw [List.getElem?_drop] at hu
    have := k4 _ had _ u hu
    rw [Addr.add_mid] at this
    rw [Nat.add_assoc]
    exact this
  · cases hu
theorem OwG.read {B : Nat} {l : List UInt8} {bad : Bool} (hE : ∀ own cs y, E w own cs y → E w' own cs y) (h : OwG E e size w base v ys) (hg : w.grownBy w' (some B)) (hB : B < base) : OwG E e size w' base v ys := by
  obtain ⟨us, h1, h2⟩ := h
  refine ⟨us, h1.kept hg ?_, fun i b hb => hE _ _ _ (h2 i b hb)⟩
  rcases hv : v.ownBlock with _ | k
  · exact .inl rfl
  · exact .inr (fun e => by injection e with e; have := (h1.lt k hv).1; omega)
theorem OwG.same (hE : ∀ own cs y, E w own cs y → E w' own cs y) (h : OwG E e size w base v ys) (hb : Below w.heap.size w w') : OwG E e size w' base v ys := by
  obtain ⟨us, h1, h2⟩ := h
  exact ⟨us, h1.below hb, fun i b hb => hE _ _ _ (h2 i b hb)⟩
/-- What an append leaves. -/
theorem OwG.app {cs : List Value} {y : α} (zs : List Value) (h1 : OwS w base e size v ys.length zs) (h2 : ∀ (i : Nat) (y : α), ys[i]? = some y → E w v.ownBlock ((zs.drop (i * size)).take size) y)
    (hcs : cs.length = size) (hy : E w v.ownBlock cs y) (hE : ∀ cs y, E w v.ownBlock cs y → E w' v'.ownBlock cs y) (ho : OwS w' base e size v' (ys.length + 1) (zs ++ cs)) : OwG E e size w' base v' (ys ++ [y]) := by
  have hz := h1.1
  refine ⟨zs ++ cs, by rw [List.length_append]; exact ho, fun i x hx => ?_⟩
  by_cases hi : i < ys.length
  · rw [List.getElem?_append_left hi] at hx
    have hle : i * size + size ≤ ys.length * size := by rw [← Nat.succ_mul]; exact Nat.mul_le_mul_right _ hi
    have e1 : ((zs ++ cs).drop (i * size)).take size = (zs.drop (i * size)).take size := by
      rw [List.drop_append_of_le_length (by omega), List.take_append_of_le_length (by rw [List.length_drop]; omega)]
    rw [e1]
    exact hE _ _ (h2 i x hx)
  · have e : i = ys.length := by
      have := (List.getElem?_eq_some_iff.1 hx).1
      simp at this
      omega
    subst e
    rw [List.getElem?_append_right (Nat.le_refl _)] at hx
    simp at hx
    subst hx
    have e1 : ((zs ++ cs).drop (ys.length * size)).take size = cs := by
      rw [← hz, List.drop_left, List.take_of_length_le (by omega)]
    rw [e1]
    exact hE _ _ hy
end
/-- An output of one's own. -/
def OutE (base : Nat) (w : World) (own : Option Nat) (cs : List Value) (y : LOut) : Prop := ∃ u, cs = [.int .u64 (y.value : Int), u] ∧ ElC w base own u y.script ∧ y.value < 18446744073709551616
theorem OutE.rd (base : Nat) : ∀ w own cs y, OutE base w own cs y → OutC w cs y := by
  rintro w own cs y ⟨u, rfl, h, hv⟩
  exact ⟨u, rfl, h.1.rd, hv⟩
theorem OutE.read {base : Nat} {w w' : World} {B : Nat} (hB : B < base) (hg : w.grownBy w' (some B)) : ∀ own cs y, OutE base w own cs y → OutE base w' own cs y := by
  rintro own cs y ⟨u, rfl, h, hv⟩
  exact ⟨u, rfl, h.read hg hB, hv⟩
theorem OutE.below {base : Nat} {w w' : World} (hb : Below w.heap.size w w') : ∀ own cs y, OutE base w own cs y → OutE base w' own cs y := by
  rintro own cs y ⟨u, rfl, h, hv⟩
  exact ⟨u, rfl, h.below hb, hv⟩
theorem OutE.grow {base : Nat} {w w' : World} {own own' : Option Nat} (hg : w.grownBy w' own) (ht : own' = own ∨ ∃ k, own' = some k ∧ w.heap.size ≤ k) : ∀ cs y, OutE base w own cs y → OutE base w' own' cs y := by
  rintro cs y ⟨u, rfl, h, hv⟩
  exact ⟨u, rfl, h.grow hg ht, hv⟩
abbrev OwOuts (w : World) (base : Nat) (v : Value) (ys : List LOut) : Prop := OwG (OutE base) 57 2 w base v ys

def rOut (s : St) : LOut × St :=
  let a := rnum 8 s.1 s.2
  let b := rRow a.2
  (⟨a.1, b.1⟩, b.2)
def rOuts (s : St) : List LOut × St := iter rOut (rcount 50 s.1 s.2).1 (rcount 50 s.1 s.2).2
theorem info57 : (Try.prog.info? 57).map (fun i => (i.zero, i.size, i.bytes)) = some (some (.agg #[.int .u64 0, .slice none 0 0]), 2, 32) := by kernel_rfl

set_option maxHeartbeats 4000000 in
set_option maxRecDepth 100000 in
theorem outs_to (B : Nat) (l : List UInt8) (bad : Bool) (w : World) {ys : List LOut} {l' : List UInt8} {bad' : Bool} (hq : rOuts (l, bad) = (ys, l', bad')) (h : Rdr 74 w B l bad) (hl : l.length ≤ 140737488355328) :
    Calls Try.prog 87 #[.pointer (some ⟨B, 0, none⟩)] w fun e w' => ∃ r, e = .returned r ∧ OwOuts w' w.heap.size r ys ∧ Rdr 74 w' B l' bad' ∧ w.grownBy w' (some B) := by
  obtain ⟨N, l1, b1, hq1⟩ : ∃ N l1 b1, rcount 50 l bad = (N, l1, b1) := ⟨_, _, _, rfl⟩
  have HQ : As (iter rOut N (l1, b1) = (ys, l', bad')) := ⟨by rw [← hq]; unfold rOuts; rw [hq1]⟩
  have HQ1 := As.mk hq1
  have HL1 : As (l1.length ≤ 140737488355328) := ⟨by have := rcount_le_len 50 l bad; rw [hq1] at this; simp only at this; omega⟩
  have hN : (N : Int) ≤ 50 := by
    have : (rcount 50 l bad).1 = N := by rw [hq1]
    rw [← this]
    unfold rcount
    simp only
    split
    · simp
    · omega
  have HR := As.mk h
  have HBL := As.mk h.lt
  clear hq hq1 h hl
  go_enter Try.func87, Try.ntmps87
  go_wp2_with ((go_at_call 21; (with_reducible refine (rcount_to B l bad 50 _ HQ1.out HR.out (by omega) (by omega)).mono ?_); rintro e w1 ⟨rfl, hr, hg⟩; have HR1 := As.mk hr; have HG1 := As.mk hg; clear hr hg))
  go_loopw [3, 7] (fun v3 v7 wr => ∃ (k : Nat) (xs : List LOut) (l2 : List UInt8) (b2 : Bool), v7 = .int .i64 (k : Int) ∧ (k : Int) ≤ N ∧ As (iter rOut k (l1, b1) = (xs, l2, b2)) ∧ As (Rdr 74 wr B l2 b2) ∧ As (OwOuts wr w.heap.size v3 xs) ∧ As (w.grownBy wr (some B)) ∧ As (l2.length ≤ 140737488355328) ∧ As (xs.length = k)) (fun _ v7 _ => N - (intOf v7).toNat)
  case atStart => exact ⟨0, [], l1, b1, rfl, by omega, ⟨rfl⟩, HR1, ⟨OwG.nil⟩, HG1, HL1, ⟨rfl⟩⟩
  case round =>
    obtain ⟨k, xs, l2, b2, rfl, hk, HI, HRk, HO, HG, HL2, HXL⟩ := hrel
    by_cases hlt : (k : Int) < N
    · obtain ⟨val, l0, b0, hq0⟩ : ∃ m l3 b3, rnum 8 l2 b2 = (m, l3, b3) := ⟨_, _, _, rfl⟩
      obtain ⟨m, l3, b3, hq3⟩ : ∃ m l3 b3, rcount 500 l0 b0 = (m, l3, b3) := ⟨_, _, _, rfl⟩
      obtain ⟨x, l4, b4, hq4⟩ : ∃ x l4 b4, rtake (m : Int) l3 b3 = (x, l4, b4) := ⟨_, _, _, rfl⟩
      have HL0 : As (l0.length ≤ 140737488355328) := ⟨by have := rnum_le_len 8 l2 b2; rw [hq0] at this; simp only at this; have := HL2.out; omega⟩
      have HL3 : As (l3.length ≤ 140737488355328) := ⟨by have := rcount_le_len 500 l0 b0; rw [hq3] at this; simp only at this; have := HL0.out; omega⟩
      have HL4 : As (l4.length ≤ 140737488355328) := ⟨by have := rtake_le_len m l3 b3; rw [hq4] at this; simp only at this; have := HL3.out; omega⟩
      have HVAL : As (val < 18446744073709551616) := ⟨by have := rnum_lt 8 l2 b2; rw [hq0] at this; simpa using this⟩
      have HI2 : As (iter rOut (k + 1) (l1, b1) = (xs ++ [⟨val, x⟩], l4, b4)) := ⟨by unfold iter; rw [HI.out]; simp only [rOut, rRow]; rw [hq0]; simp only; rw [hq3]; simp only; rw [hq4]⟩
      have HQ0 := As.mk hq0
      have HQ3 := As.mk hq3
      have HQ4 := As.mk hq4
      clear hq0 hq3 hq4
      have HU := As.mk (fun b hb => (OwG.lt HO.out b hb).2)
      go_upto_region 5 with (first | (go_at_call 20; (with_reducible refine (rbig_to B l2 b2 _ HQ0.out HRk.out).mono ?_); rintro e w2 ⟨rfl, hr, hg⟩; have HR2 := As.mk hr; have HG2 := As.mk hg; clear hr hg))
      have HZ : As (Rdr 74 (w2.alloc (.cells #[.int .u64 (val : Int), .slice none 0 0] 57)) B l0 b0 ∧ wr.grownBy (w2.alloc (.cells #[.int .u64 (val : Int), .slice none 0 0] 57)) (some B) ∧ Box (w2.alloc (.cells #[.int .u64 (val : Int), .slice none 0 0] 57)) w2.heap.size #[.int .u64 (val : Int), .slice none 0 0] 57 ∧ B < w2.heap.size ∧ wr.heap.size ≤ w2.heap.size) :=
        ⟨Rdr.below HR2.out ((Below.refl _ _).alloc (Nat.le_refl _) _), grown_al HG2.out _, Box.new _ _ _, by have := HG2.out.size; have := HG.out.size; have := HBL.out; omega, HG2.out.size⟩
      obtain ⟨G, hG⟩ : ∃ G, G = w2.heap.size := ⟨_, rfl⟩
      rw [← hG] at HZ
      rw [← hG]
      generalize (w2.alloc (.cells #[.int .u64 (val : Int), .slice none 0 0] 57)) = W3 at HZ ⊢
      have HB3 := As.mk (And.intro HZ.out.2.2.2.1 HZ.out.2.2.2.2)
      clear HR2 HG2 hG
      go_upto_region 6 with (first | (go_at_call 21; (with_reducible refine (rcount_to B l0 b0 500 _ HQ3.out HZ.out.1 (by omega) (by omega)).mono ?_); rintro e w4 ⟨rfl, hr, hg⟩; have HR4 := As.mk hr; have HG4 := As.mk (grown_trans HZ.out.2.1 hg); have HX4 := As.mk (Box.grown HZ.out.2.2.1 hg (fun e => by injection e with e; have := HB3.out.1; omega)); clear hr hg) | (go_at_call 25; (with_reducible refine (rtake_to B l3 b3 _ _ HQ4.out HR4.out HL3.out).mono ?_); rintro e w5 ⟨r3, rfl, ho, hr, hg⟩; obtain ⟨A3, c3, rfl, -⟩ := RdB.form ho.rd; have HX5 := As.mk ho; have HR5 := As.mk hr; have HG5 := As.mk (grown_trans HG4.out hg); have HB5 := As.mk (Box.grown HX4.out hg (fun e => by injection e with e; have := HB3.out.1; omega)); obtain ⟨c0, c1, f0, f1⟩ := two_cell HB5.out; clear hr hg ho))
      have gset := grown_set w5 G 1 (.slice A3 x.length c3)
      have HB6 := As.mk (show Box (w5.setCell ⟨G, 1, none⟩ (.slice A3 x.length c3)) G #[.int .u64 (val : Int), .slice A3 x.length c3] 57 from two_set1 HB5.out _)
      have HR6 := As.mk (Rdr.grown HR5.out gset (fun b hb => by injection hb with hb; have := HB3.out.1; omega))
      have HG6 := As.mk (grown_far HG5.out gset (fun b hb => by injection hb with hb; have := HB3.out.2; omega))
      have HX6 : As (OwB (w5.setCell ⟨G, 1, none⟩ (.slice A3 x.length c3)) (G + 1) 5 (.slice A3 x.length c3) x) :=
        ⟨OwS.mono (OwS.kept HX5.out gset (off_kept (off_low HX5.out HX4.out.lt))) HX4.out.lt⟩
      clear gset c0 c1 f0 f1 HR5 HG5 HB5 HX5 HR4 HG4 HX4 HZ
      generalize (w5.setCell ⟨G, 1, none⟩ (.slice A3 x.length c3)) = W6 at HB6 HR6 HG6 HX6 ⊢
      obtain ⟨c0, c1, f0, f1⟩ := two_cell HB6.out
      have HO6 := As.mk (OwG.read (l := l2) (bad := b2) (OutE.read HBL.out HG6.out) HO.out HG6.out HBL.out)
      have HS6 := As.mk (Nat.le_trans HG.out.size HG6.out.size)
      go_wp2_with (at_builtin; obtain ⟨us, k1, k2⟩ := OwG.same (OutE.below ((Below.refl _ _).alloc (Nat.le_refl _) (.cells #[.int .u64 (val : Int), .slice A3 x.length c3] 57))) HO6.out ((Below.refl _ _).alloc (Nat.le_refl _) (.cells #[.int .u64 (val : Int), .slice A3 x.length c3] 57)); refine wpList_app w.heap.size rfl (.tmp 17) (.tmp 19) 49 57 (.agg #[.int .u64 0, .slice none 0 0]) 2 32 rfl Try.underlying49 info57 rfl (by decide) u3 (.slice (some ⟨W6.heap.size, 0, none⟩) 1 1) rfl rfl xs.length us k1 1 [.int .u64 (val : Int), .slice A3 x.length c3] ?rd (by simp; exact ⟨rfl, rfl⟩) ?b1 ?b2 ?b3 ?_; (case rd => exact (OwS.lit W6 W6.heap.size 57 2 1 #[.int .u64 (val : Int), .slice A3 x.length c3] (Nat.le_refl _) (by decide) rfl).rd); (case b1 => have := HXL.out; unfold maxLen; omega); (case b2 => have := HXL.out; omega); (case b3 => have := HS6.out; simp; omega); intro v4 w4 ho hg ht; have HO4 := As.mk (OwG.app (E := OutE w.heap.size) us k1 k2 (cs := [.int .u64 (val : Int), .slice A3 x.length c3]) (y := ⟨val, x⟩) rfl ⟨_, rfl, ⟨.inl (OwS.alloc (OwS.mono HX6.out (by have q2 := HG.out.size; have q3 := HB3.out.2; omega)) _), fun b hb e => (by have q1 := HX6.out.lt b hb; have q2 := HU.out b e; have q3 := HB3.out.2; omega)⟩, HVAL.out⟩ (OutE.grow hg ht) ho); have HR4 := As.mk (Rdr.grown (Rdr.below HR6.out ((Below.refl _ _).alloc (Nat.le_refl _) (.cells #[.int .u64 (val : Int), .slice A3 x.length c3] 57))) hg (fun b hb => (by have q1 := OwG.lt HO.out b hb; have q2 := HBL.out; omega))); have HG4 := As.mk (grown_far (grown_al (grown_trans HG.out HG6.out) _) hg (fun b hb => (OwG.lt HO.out b hb).1)); clear ho hg ht k1 k2)
      go_roundw
      case rel => exact ⟨k + 1, xs ++ [⟨val, x⟩], l4, b4, by go_num, by omega, HI2, HR4, HO4, HG4, HL4, ⟨by rw [List.length_append, HXL.out]; rfl⟩⟩
      case measure => simp [intOf]; omega
    · have hkN : k = N := by omega
      have HF : As (xs = ys ∧ l2 = l' ∧ b2 = bad') := ⟨by have h1 := HI.out; rw [hkN, HQ.out] at h1; simp only [Prod.mk.injEq] at h1; exact ⟨h1.1.symm, h1.2.1.symm, h1.2.2.symm⟩⟩
      clear hkN
      go_wp2
      go_ret
      obtain ⟨rfl, rfl, rfl⟩ := HF.out
      exact ⟨_, rfl, HO.out, HRk.out, HG.out⟩
end Go.Proofs.Ytfggkljgfadacaa.W
