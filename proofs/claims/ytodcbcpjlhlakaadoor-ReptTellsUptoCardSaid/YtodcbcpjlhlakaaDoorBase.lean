/- Slices as lists of cells: read, owned, appended to; over any program. No condition. -/
import Derived.WalkKit
import Derived.ProofKit
import Derived.ArgAppend
import Derived.Lib.Hide
import Derived.WalkLawsBesides
import Derived.WalkSpells
import Derived.OpenShut
import Derived.SizedLaws
set_option linter.unusedVariables false
set_option linter.unusedSimpArgs false
namespace Go.Proofs.YtodcbcpjlhlakaaDoor.B
open Go.RowKit Go.ChangeShapes Go.WideShapes

/-- A fact that the walk's simp does not look into. -/
structure As (p : Prop) : Prop where mk :: (out : p)

/-- A slice that reads as n elements of 'size' cells each. -/
def RdS (w : World) (size : Nat) (v : Value) (n : Nat) (xs : List Value) : Prop :=
  xs.length = n * size ∧ ∃ A c, v = .slice A n c ∧ n ≤ c ∧ c ≤ maxLen ∧ (A = none → c = 0) ∧ ∀ ad, A = some ad → ∀ j u, xs[j]? = some u → w.cell? (ad.add j) = some u
/-- A slice in a block from 'base' on, unfrozen up to its capacity. -/
def OwS (w : World) (base : Nat) (e : TypeId) (size : Nat) (v : Value) (n : Nat) (xs : List Value) : Prop :=
  xs.length = n * size ∧ ((v = .slice none 0 0 ∧ n = 0) ∨ ∃ g off cap cur, v = .slice (some ⟨g, off, none⟩) n cap ∧ base ≤ g ∧ w.heap[g]? = some (.cells cur e (0, 0)) ∧
    n ≤ cap ∧ cap ≤ maxLen ∧ off + cap * size ≤ cur.size ∧ (cur.toList.drop off).take (n * size) = xs)

theorem cell_block {w : World} {g off j : Nat} {cur : Array Value} {e : TypeId} {fr : Nat × Nat} (h : w.heap[g]? = some (.cells cur e fr)) : w.cell? ((⟨g, off, none⟩ : Addr).add j) = cur[off + j]? := by
  rw [Addr.add_lit]
  simp [World.cell?, h]
theorem OwS.rd {w : World} {base : Nat} {e : TypeId} {size : Nat} {v : Value} {n : Nat} {xs : List Value} (h : OwS w base e size v n xs) : RdS w size v n xs := by
  obtain ⟨hl, h⟩ := h
  refine ⟨hl, ?_⟩
  rcases h with ⟨rfl, rfl⟩ | ⟨g, off, cap, cur, rfl, _, hg, h1, h2, _, ht⟩
  · exact ⟨none, 0, rfl, Nat.le_refl _, Nat.zero_le _, fun _ => rfl, fun _ h => by cases h⟩
  · refine ⟨_, cap, rfl, h1, h2, (fun h => by cases h), ?_⟩
    rintro ad had j u hu
    obtain rfl := Option.some.inj had
    rw [cell_block hg]
    subst ht
    rw [List.getElem?_take] at hu
    split at hu
    · rw [List.getElem?_drop] at hu; simpa using hu
    · cases hu
theorem OwS.of {w : World} {base : Nat} {e : TypeId} {size : Nat} {v : Value} {n : Nat} {xs : List Value} (h : w.ownsRow base e size v n xs) : OwS w base e size v n xs := by
  refine ⟨h.1, ?_⟩
  rcases h.2 with h | ⟨g, cap, cur, h1, h2, h3, h4, h5, h6, h7⟩
  · exact .inl h
  · exact .inr ⟨g, 0, cap, cur, h1, h2, h3, h4, h5, by omega, by simpa using h7⟩
theorem OwS.nil (w : World) (base : Nat) (e : TypeId) (size : Nat) : OwS w base e size (.slice none 0 0) 0 [] := ⟨by simp, .inl ⟨rfl, rfl⟩⟩
theorem OwS.mono {w : World} {base base' : Nat} {e : TypeId} {size : Nat} {v : Value} {n : Nat} {xs : List Value} (h : OwS w base e size v n xs) (hb : base' ≤ base) : OwS w base' e size v n xs := by
  refine ⟨h.1, ?_⟩
  rcases h.2 with h | ⟨g, off, cap, cur, h1, h2, h3⟩
  · exact .inl h
  · exact .inr ⟨g, off, cap, cur, h1, by omega, h3⟩
theorem OwS.kept {w w' : World} {base : Nat} {e : TypeId} {size : Nat} {v : Value} {n : Nat} {xs : List Value} {row : Option Nat} (h : OwS w base e size v n xs) (hg : w.grownBy w' row)
    (hne : v.ownBlock = none ∨ v.ownBlock ≠ row) : OwS w' base e size v n xs := by
  refine ⟨h.1, ?_⟩
  rcases h.2 with h | ⟨g, off, cap, cur, rfl, h2, h3, h4⟩
  · exact .inl h
  · refine .inr ⟨g, off, cap, cur, rfl, h2, ?_, h4⟩
    have hlt : g < w.heap.size := (Array.getElem?_eq_some_iff.1 h3).1
    have hr : some g ≠ row := by
      rcases hne with hne | hne
      · simp [Value.ownBlock] at hne
      · exact hne
    rw [hg.block g hlt hr]
    exact h3
theorem grown_none {w w1 : World} (h : Below w.heap.size w w1) : w.grownBy w1 none := ⟨h.os, h.tape, h.output, h.size, fun i hi _ => h.block i hi⟩
theorem OwS.below {w w' : World} {base : Nat} {e : TypeId} {size : Nat} {v : Value} {n : Nat} {xs : List Value} (h : OwS w base e size v n xs) (hb : Below w.heap.size w w') : OwS w' base e size v n xs :=
  h.kept (grown_none hb) (by cases v.ownBlock <;> simp)
theorem OwS.alloc {w : World} {base : Nat} {e : TypeId} {size : Nat} {v : Value} {n : Nat} {xs : List Value} (h : OwS w base e size v n xs) (o : Obj) : OwS (w.alloc o) base e size v n xs :=
  h.below ((Below.refl _ _).alloc (Nat.le_refl _) o)
theorem OwS.drew {w : World} {base : Nat} {e : TypeId} {size : Nat} {v : Value} {n : Nat} {xs : List Value} (h : OwS w base e size v n xs) : OwS w.drew base e size v n xs := h
theorem OwS.drewN {w : World} {base : Nat} {e : TypeId} {size : Nat} {v : Value} {n : Nat} {xs : List Value} (h : OwS w base e size v n xs) (k : Nat) : OwS (w.drewN k) base e size v n xs := h
theorem OwS.lt {w : World} {base : Nat} {e : TypeId} {size : Nat} {v : Value} {n : Nat} {xs : List Value} (h : OwS w base e size v n xs) (k : Nat) (hk : v.ownBlock = some k) : base ≤ k ∧ k < w.heap.size := by
  rcases h.2 with ⟨rfl, _⟩ | ⟨g, off, cap, cur, rfl, h2, h3, h4⟩
  · simp [Value.ownBlock] at hk
  · have hlt : g < w.heap.size := (Array.getElem?_eq_some_iff.1 h3).1
    simp [Value.ownBlock] at hk
    omega
theorem RdS.kept {w w' : World} {size : Nat} {v : Value} {n : Nat} {xs : List Value} (h : RdS w size v n xs) (hc : ∀ ad u, w.cell? ad = some u → w'.cell? ad = some u) : RdS w' size v n xs := by
  obtain ⟨hl, A, c, rfl, h1, h2, h3, h4⟩ := h
  exact ⟨hl, A, c, rfl, h1, h2, h3, fun ad ha j u hu => hc _ _ (h4 ad ha j u hu)⟩
theorem cell_of_below {w w1 : World} (h : Below w.heap.size w w1) {a : Addr} {v : Value} (hc : w.cell? a = some v) : w1.cell? a = some v := (h.cell (World.block_lt_of_cell? w a hc)).trans hc
theorem cell_below {w w1 : World} (h : Below w.heap.size w w1) {a : Addr} {v : Value} (hc : w.cell? a = some v) : w1.cell? a = some v := (h.cell (World.block_lt_of_cell? w a hc)).trans hc
theorem RdS.below {w w' : World} {size : Nat} {v : Value} {n : Nat} {xs : List Value} (h : RdS w size v n xs) (hb : Below w.heap.size w w') : RdS w' size v n xs := h.kept fun _ _ => cell_below hb
theorem RdS.alloc {w : World} {size : Nat} {v : Value} {n : Nat} {xs : List Value} (h : RdS w size v n xs) (o : Obj) : RdS (w.alloc o) size v n xs := h.below ((Below.refl _ _).alloc (Nat.le_refl _) o)
theorem RdS.drewN {w : World} {size : Nat} {v : Value} {n : Nat} {xs : List Value} (h : RdS w size v n xs) (k : Nat) : RdS (w.drewN k) size v n xs := h
theorem RdS.drew {w : World} {size : Nat} {v : Value} {n : Nat} {xs : List Value} (h : RdS w size v n xs) : RdS w.drew size v n xs := h
theorem grown_below {B : Nat} {w0 w w' : World} {row : Option Nat} (h : Below B w0 w) (hg : w.grownBy w' row) (hB : B ≤ w.heap.size) (hr : ∀ k, row = some k → B ≤ k) : Below B w0 w' := h.grown hg hB hr

section
variable {P : Program}
/-- append(v, y...): v owned, y read; either may be nil. -/
theorem run_app (w : World) (base : Nat) (t ty e : TypeId) (i : TypeInfo) (z : Value) (size bytes : Nat) (ht : P.underlying t = some (.slice e)) (hi : P.info? e = some i) (hz : i.zero = some z)
    (hsize : i.size = size) (hby : i.bytes = bytes) (hzs : z.cells.size = size) (hsz : 0 < size)
    (v : Value) (n : Nat) (xs : List Value) (hown : OwS w base e size v n xs) (y : Value) (m : Nat) (ys : List Value) (hy : RdS w size y m ys) (h1 : ∀ u ∈ ys, u.oneCell' = true)
    (h63 : n + m ≤ maxLen) (hbytes : (n + m) * bytes ≤ 140737488355328) (hbase : base ≤ w.heap.size) :
    ∃ v' w', (Builtin.append_ #[t, t] ty #[v, y]).run P w = .ok v' w' ∧ OwS w' base e size v' (n + m) (xs ++ ys) ∧ w.grownBy w' v.ownBlock ∧ (v'.ownBlock = v.ownBlock ∨ ∃ b, v'.ownBlock = some b ∧ w.heap.size ≤ b) := by
  obtain ⟨hyl, A, c, rfl, hmc, hcm, hA, hcell⟩ := hy
  subst hsize
  subst hby
  rcases A with _ | ad
  · have hc0 := hA rfl
    have hm0 : m = 0 := by omega
    subst hm0
    have hys : ys = [] := List.eq_nil_of_length_eq_zero (by simpa using hyl)
    subst hys
    refine ⟨v, w, ?_, by simpa using hown, World.grownBy.refl w _, .inl rfl⟩
    rcases hown.2 with ⟨rfl, hn⟩ | ⟨g, off, cap, cur, rfl, _, _, hnc, _⟩
    · simp [Builtin.append_, run_underlying ht, sizeOf, typeInfo, hi, Builtin.lenOf, Builtin.firstCells]
    · simp [Builtin.append_, run_underlying ht, sizeOf, typeInfo, hi, Builtin.lenOf, Builtin.firstCells, hnc, storeCells]
  · rcases hown.2 with ⟨rfl, rfl⟩ | ⟨g, off, cap, cur, rfl, hbg, hg, hnc, hcm', hfit, htake⟩
    · have hx0 : xs = [] := List.eq_nil_of_length_eq_zero (by simpa using hown.1)
      subst hx0
      obtain ⟨v', w', hr, h2, h3, _, h5⟩ := run_append_own_at (P := P) w base t ty e i z i.size i.bytes ht hi hz rfl rfl hzs hsz (.slice none 0 0) 0 [] (World.ownsRow_nil w base e i.size) ad m c ys hyl (hcell ad rfl) h1 h63 hbytes hbase
      exact ⟨v', w', hr, .of h2, h3, h5.imp id (fun h => ⟨_, h, Nat.le_refl _⟩)⟩
    · have holds : ∀ j u, xs[j]? = some u → w.cell? ((⟨g, off, none⟩ : Addr).add j) = some u := fun j u hu => by
        obtain ⟨_, A, c', he, _, _, _, h⟩ := hown.rd
        injection he with he
        exact h _ he.symm j u hu
      by_cases hroom : n + m ≤ cap
      · have hsz1 : n * i.size + m * i.size ≤ cap * i.size := by rw [← Nat.add_mul]; exact Nat.mul_le_mul_right _ hroom
        have hc : ∀ j, j < ys.length → (w.cell? ⟨g, off + n * i.size + j, none⟩).isSome = true := by
          intro j hj
          simp only [World.cell?, hg]
          simp; omega
        have hf : ∀ j, j < ys.length → w.frozen? ⟨g, off + n * i.size + j, none⟩ = false := by
          intro j hj
          simp [World.frozen?, hg]
        have hfc := run_firstCells_some (P := P) w i.size m ad m c ys hyl (hcell ad rfl)
        have hst := run_storeCells_at P g (off + n * i.size) e ys 0 cur w hg (by omega) h1
        simp only [Nat.add_zero] at hst
        have hr : (Builtin.append_ #[t, t] ty #[.slice (some ⟨g, off, none⟩) n cap, .slice (some ad) m c]).run P w = .ok (.slice (some ⟨g, off, none⟩) (n + m) cap)
            (w.setRow g (cur.toList.take (off + n * i.size) ++ ys ++ cur.toList.drop (off + n * i.size + ys.length)).toArray) := by
          simp [Builtin.append_, run_underlying ht, sizeOf, typeInfo, hi, Builtin.lenOf, hroom, hfc, Addr.add_lit, hst]
        refine ⟨_, _, hr, ⟨by rw [List.length_append, hown.1, hyl, Nat.add_mul], .inr ⟨g, off, cap, _, rfl, hbg, setRow_heap w g cur _ e _ hg, hroom, hcm', ?_, ?_⟩⟩,
          ⟨rfl, rfl, rfl, by simp, fun k _ hk => setRow_other w g k _ (fun e => hk (by simp [Value.ownBlock, e]))⟩, .inl rfl⟩
        · simp only [List.size_toArray, List.length_append, List.length_take, List.length_drop, Array.length_toList]; omega
        · have hxl := hown.1
          have hcl : cur.toList.length = cur.size := Array.length_toList
          apply List.ext_getElem?
          intro j
          simp only [List.getElem?_take, List.getElem?_drop, List.append_assoc]
          by_cases hj : j < (n + m) * i.size
          · rw [if_pos hj]
            rw [Nat.add_mul] at hj
            by_cases hj1 : j < n * i.size
            · rw [List.getElem?_append_left (by rw [List.length_take]; omega), List.getElem?_take_of_lt (by omega), List.getElem?_append_left (by omega), ← htake, List.getElem?_take_of_lt hj1, List.getElem?_drop]
            · rw [List.getElem?_append_right (by rw [List.length_take]; omega), List.length_take, List.getElem?_append_left (by omega), List.getElem?_append_right (by omega)]
              congr 1
              omega
          · rw [if_neg hj, List.getElem?_eq_none]
            rw [List.length_append, hxl, hyl, ← Nat.add_mul]; omega
      · obtain ⟨v', w', hrun, r1, r2⟩ := run_append_arg_grows (P := P) w t ty e i z i.size i.bytes ht hi hz rfl rfl hzs hsz ⟨g, off, none⟩ n cap xs hown.1 holds ad m c ys hyl (hcell ad rfl) (by omega) h63 hbytes
        have hgr : w.grownBy w' (Value.ownBlock (.slice (some ⟨g, off, none⟩) n cap)) := ⟨r2.os, r2.tape, r2.output, r2.size, fun k hk _ => r2.block k hk (by simp)⟩
        refine ⟨v', w', hrun, OwS.mono (.of r1) hbase, hgr, ?_⟩
        rcases hb : v'.ownBlock with _ | b
        · rcases r1.2 with ⟨rfl, h0⟩ | ⟨g', cap', cur', rfl, _⟩
          · omega
          · simp [Value.ownBlock] at hb
        · exact .inr ⟨b, rfl, ((OwS.of r1).lt b hb).1⟩
/-- The same, for the walk. -/
theorem wpList_app {w : World} {ops : Array Oper} {rest : List Oper} {o : Oper} {a : Act} {Q : Exit → Act → World → Prop} (base : Nat) (hgd : o.guard = none) (s x : Operand) (t e : TypeId) (z : Value) (size bytes : Nat)
    (ho : o.op = .call { callee := .builtin .append, args := #[s, x], argTypes := #[t, t] })
    (ht : P.underlying t = some (.slice e)) (hinfo : (P.info? e).map (fun i => (i.zero, i.size, i.bytes)) = some (some z, size, bytes)) (hzs : z.cells.size = size) (hsz : 0 < size)
    (v y : Value) (hs : a.eval s = v) (hx : a.eval x = y) (n : Nat) (xs : List Value) (hown : OwS w base e size v n xs) (m : Nat) (ys : List Value) (hy : RdS w size y m ys) (h1 : ∀ u ∈ ys, u.oneCell' = true)
    (h63 : n + m ≤ maxLen) (hbytes : (n + m) * bytes ≤ 140737488355328) (hbase : base ≤ w.heap.size)
    (h : ∀ v' w', OwS w' base e size v' (n + m) (xs ++ ys) → w.grownBy w' v.ownBlock → (v'.ownBlock = v.ownBlock ∨ ∃ b, v'.ownBlock = some b ∧ w.heap.size ≤ b) → wpList P ops Q rest (a.put o.dst v') w') :
    wpList P ops Q (o :: rest) a w := by
  obtain ⟨i, hi, hzz⟩ := Option.map_eq_some_iff.1 hinfo
  simp only [Prod.mk.injEq] at hzz
  obtain ⟨hz0, hz1, hz2⟩ := hzz
  obtain ⟨v', w', hr, h2, h3, h4⟩ := run_app (P := P) w base t o.type e i z size bytes ht hi hz0 hz1 hz2 hzs hsz v n xs hown y m ys hy h1 h63 hbytes hbase
  refine wpList_plain hgd fun K hK => ?_
  unfold Oper.wp execOp
  simp only [ho, resolve, invoke, builtin, Sem.run_bind, Sem.run_pure, Result.andThen_ok, List.map_toArray, List.map_cons, List.map_nil, hs, hx, hr]
  exact hK _ _ (h v' w' h2 h3 h4)
end

/-! Bytes -/
def u8v (b : UInt8) : Value := .int .u8 (b.toNat : Int)
abbrev RdB (w : World) (v : Value) (bs : List UInt8) : Prop := RdS w 1 v bs.length (bs.map u8v)
abbrev OwB (w : World) (base : Nat) (e : TypeId) (v : Value) (bs : List UInt8) : Prop := OwS w base e 1 v bs.length (bs.map u8v)
theorem u8v_one (bs : List UInt8) : ∀ u ∈ bs.map u8v, u.oneCell' = true := by
  intro u hu
  obtain ⟨_, _, rfl⟩ := List.mem_map.1 hu
  rfl
theorem RdB.form {w : World} {v : Value} {bs : List UInt8} (h : RdB w v bs) : ∃ A c, v = .slice A bs.length c ∧ bs.length ≤ c ∧ c ≤ maxLen ∧ (A = none → c = 0) := by
  obtain ⟨_, A, c, h1, h2, h3, h4, _⟩ := h
  exact ⟨A, c, h1, h2, h3, h4⟩
theorem RdB.formN {w : World} {v : Value} {bs : List UInt8} {n : Nat} (h : RdB w v bs) (hn : bs.length = n) : ∃ A c, v = .slice A n c := by
  subst hn
  obtain ⟨A, c, h, _⟩ := RdB.form h
  exact ⟨A, c, h⟩
theorem RdB.at {w : World} {A : Option Addr} {n c : Nat} {bs : List UInt8} (h : RdB w (.slice A n c) bs) (j : Nat) (hj : j < bs.length) : ∃ ad, A = some ad ∧ w.cell? (ad.add j) = some (.int .u8 ((bs.getD j 0).toNat : Int)) := by
  obtain ⟨_, A', c', h1, h2, h3, h4, h5⟩ := h
  injection h1 with e1 e2 e3
  subst e1 e2 e3
  rcases A with _ | ad
  · have := h4 rfl; omega
  · exact ⟨ad, rfl, h5 ad rfl j _ (by simp [u8v, List.getD_eq_getElem?_getD, List.getElem?_eq_getElem hj])⟩
/-- A new block, its cells written out: owned. -/
theorem OwS.lit (w : World) (base : Nat) (e : TypeId) (size n : Nat) (cs : Array Value) (hb : base ≤ w.heap.size) (hn : n ≤ maxLen) (hs : cs.size = n * size) :
    OwS (w.alloc (.cells cs e)) base e size (.slice (some ⟨w.heap.size, 0, none⟩) n n) n cs.toList := by
  refine ⟨by simpa using hs, .inr ⟨w.heap.size, 0, n, cs, rfl, hb, heap_alloc_new w _, Nat.le_refl _, hn, by omega, ?_⟩⟩
  rw [List.drop_zero, List.take_of_length_le (by simp [hs])]
theorem OwB.empty (w : World) (base : Nat) (e : TypeId) (hb : base ≤ w.heap.size) : OwB (w.alloc (.cells #[] e)) base e (.slice (some ⟨w.heap.size, 0, none⟩) 0 0) [] :=
  OwS.lit w base e 1 0 #[] hb (by decide) rfl
/-- One new byte in a block of its own. -/
theorem RdB.one (w : World) (e : TypeId) (b : UInt8) (x : Int) (hx : x = (b.toNat : Int)) : RdB (w.alloc (.cells #[.int .u8 x] e)) (.slice (some ⟨w.heap.size, 0, none⟩) 1 1) [b] := by
  subst hx
  exact (OwS.lit w w.heap.size e 1 1 #[.int .u8 (b.toNat : Int)] (Nat.le_refl _) (by decide) rfl).rd
theorem u8_ofNat (n : Nat) : ((UInt8.ofNat n).toNat : Int) = (n : Int) % 256 := by
  rw [UInt8.toNat_ofNat']; omega

theorem OwS.clip {w : World} {base : Nat} {e : TypeId} {size : Nat} {A : Option Addr} {n c : Nat} {xs : List Value} (h : OwS w base e size (.slice A n c) n xs) : OwS w base e size (.slice A n n) n xs := by
  refine ⟨h.1, ?_⟩
  rcases h.2 with ⟨h1, h2⟩ | ⟨g, off, cap, cur, h1, h2, h3, h4, h5, h6, h7⟩
  · injection h1 with e1 e2 e3
    subst e1 h2
    exact .inl ⟨rfl, rfl⟩
  · injection h1 with e1 e2 e3
    subst e1 e3
    exact .inr ⟨g, off, n, cur, rfl, h2, h3, Nat.le_refl _, by omega, by have := Nat.mul_le_mul_right size h4; omega, h7⟩
/-- What lies in blocks ahead of B alone. -/
def Lo (B : Nat) (A : Option Addr) (n : Nat) : Prop := n ≠ 0 → ∀ ad, A = some ad → ad.block < B
theorem Lo.nil (B : Nat) : Lo B none 0 := fun h => absurd rfl h
section
variable {P : Program}
theorem run_cut (t e : TypeId) (size : Nat) (ht : P.underlying t = some (.slice e)) (hsz : (P.info? e).map (·.size) = some size) (A : Option Addr) (n c lo hi : Nat) (h1 : lo ≤ hi) (h2 : hi ≤ c) (W : World) :
    (Instr.slice t (.slice A n c) (some (.int .i64 (lo : Int))) (some (.int .i64 (hi : Int))) none).run P W = .ok (.slice (if c = lo then A else A.map (·.add (lo * size))) (hi - lo) (c - lo)) W := by
  obtain ⟨i, hi', hs⟩ := Option.map_eq_some_iff.1 hsz
  have hel : P.elem t = e := by simp [Program.elem, ht]
  have hu : P.underlying t = some (.slice (P.elem t)) := by rw [hel]; exact ht
  rw [run_slice_lh W t A n c hu .i64 .i64 (lo : Int) (hi : Int) (by omega) (by omega) (by omega), hel]
  simp [sizeOf, typeInfo, hi', hs, sliced, Result.andThen]
theorem run_cut_from (t e : TypeId) (size : Nat) (ht : P.underlying t = some (.slice e)) (hsz : (P.info? e).map (·.size) = some size) (A : Option Addr) (n c lo : Nat) (h1 : lo ≤ n) (W : World) :
    (Instr.slice t (.slice A n c) (some (.int .i64 (lo : Int))) none none).run P W = .ok (.slice (if c = lo then A else A.map (·.add (lo * size))) (n - lo) (c - lo)) W := by
  obtain ⟨i, hi', hs⟩ := Option.map_eq_some_iff.1 hsz
  have hel : P.elem t = e := by simp [Program.elem, ht]
  have hu : P.underlying t = some (.slice (P.elem t)) := by rw [hel]; exact ht
  rw [run_slice_l W t A n c hu .i64 (lo : Int) (by omega) (by omega), hel]
  simp [sizeOf, typeInfo, hi', hs, sliced, Result.andThen]
theorem run_cut_to (t e : TypeId) (size : Nat) (ht : P.underlying t = some (.slice e)) (hsz : (P.info? e).map (·.size) = some size) (A : Option Addr) (n c hi : Nat) (h1 : hi ≤ c) (W : World) :
    (Instr.slice t (.slice A n c) none (some (.int .i64 (hi : Int))) none).run P W = .ok (.slice A hi c) W := by
  obtain ⟨i, hi', hs⟩ := Option.map_eq_some_iff.1 hsz
  have hel : P.elem t = e := by simp [Program.elem, ht]
  have hu : P.underlying t = some (.slice (P.elem t)) := by rw [hel]; exact ht
  rw [run_slice_h W t A n c hu .i64 (hi : Int) (by omega) (by omega), hel]
  have ha : Option.map (fun x : Addr => x.add 0) A = A := by cases A <;> simp [Addr.add]
  simp [sizeOf, typeInfo, hi', hs, sliced, Result.andThen, ha]
/-- The first of what is read are read; the capacity stays. -/
theorem RdS.to {w : World} {size : Nat} {A : Option Addr} {n c : Nat} {xs : List Value} (h : RdS w size (.slice A n c) n xs) (hi : Nat) (h2 : hi ≤ n) : RdS w size (.slice A hi c) hi (xs.take (hi * size)) := by
  obtain ⟨hl, A', c', he, h3, h4, h5, h6⟩ := h
  injection he with e1 e2 e3
  subst e1 e3
  have hm : hi * size ≤ n * size := Nat.mul_le_mul_right _ h2
  refine ⟨by rw [List.length_take, hl]; omega, _, _, rfl, by omega, h4, h5, fun ad ha j u hu => h6 ad ha j u ?_⟩
  rw [List.getElem?_take] at hu
  split at hu
  · exact hu
  · cases hu
theorem RdB.to {w : World} {A : Option Addr} {n c : Nat} {bs : List UInt8} (h : RdB w (.slice A n c) bs) (hi : Nat) (h1 : hi ≤ n) : RdB w (.slice A hi c) (bs.take hi) := by
  obtain ⟨A', c', he, h3, h4, h5⟩ := RdB.form h
  injection he with e1 e2 e3
  subst e1 e2 e3
  have hc := RdS.to h hi h1
  unfold RdB
  rw [List.length_take, Nat.min_eq_left h1, List.map_take]
  simpa using hc
theorem or_u64 (n b : Nat) (hn : n < 72057594037927936) (hb : b < 256) : bits .or .u64 (IntKind.u64.wrap ((n : Int) * 256)) (IntKind.u64.wrap (b : Int)) = ((b + 256 * n : Nat) : Int) := by
  rw [IntWalk.u64_in _ (by omega), IntWalk.u64_in _ (by omega), bits_join .u64 64 (by decide) (fun n h0 h1 => IntWalk.u64_in n ⟨h0, by omega⟩) 8 _ _ (by omega) (by omega) (by omega) (by omega) (by omega) (by omega)]
  omega
/-- What is cut out of what is read is read. -/
theorem RdS.cut {w : World} {size : Nat} {A : Option Addr} {n c : Nat} {xs : List Value} (h : RdS w size (.slice A n c) n xs) (lo hi : Nat) (h1 : lo ≤ hi) (h2 : hi ≤ n) :
    RdS w size (.slice (if c = lo then A else A.map (·.add (lo * size))) (hi - lo) (c - lo)) (hi - lo) ((xs.drop (lo * size)).take ((hi - lo) * size)) := by
  obtain ⟨hl, A', c', he, h3, h4, h5, h6⟩ := h
  injection he with e1 e2 e3
  subst e1 e3
  have hm : (hi - lo) * size + lo * size ≤ n * size := by rw [← Nat.add_mul]; exact Nat.mul_le_mul_right _ (by omega)
  refine ⟨by rw [List.length_take, List.length_drop, hl]; omega, _, _, rfl, by omega, by omega, ?_, ?_⟩
  · intro hn
    split at hn
    · omega
    · rcases A with _ | ad
      · have := h5 rfl; omega
      · simp at hn
  · intro ad had j u hu
    split at had
    · rename_i hc
      have : hi - lo = 0 := by omega
      rw [this] at hu
      simp at hu
    · rcases A with _ | ad'
      · simp at had
      · simp only [Option.map_some, Option.some.injEq] at had
        subst had
        have ha : (ad'.add (lo * size)).add j = ad'.add (lo * size + j) := by
          unfold Addr.add
          by_cases h1 : lo * size = 0 <;> by_cases h2 : j = 0 <;> simp [h1, h2, Nat.add_assoc]
        rw [ha]
        refine h6 ad' rfl _ _ ?_
        rw [List.getElem?_take] at hu
        split at hu
        · rwa [List.getElem?_drop] at hu
        · cases hu
theorem RdB.from {w : World} {A : Option Addr} {n c : Nat} {bs : List UInt8} (h : RdB w (.slice A n c) bs) (lo : Nat) (h1 : lo ≤ n) :
    RdB w (.slice (if c = lo then A else A.map (·.add (lo * 1))) (n - lo) (c - lo)) (bs.drop lo) := by
  obtain ⟨A', c', he, h3, h4, h5⟩ := RdB.form h
  injection he with e1 e2 e3
  subst e1 e2 e3
  have hc := RdS.cut h lo bs.length h1 (Nat.le_refl _)
  have e : ((bs.map u8v).drop (lo * 1)).take ((bs.length - lo) * 1) = (bs.drop lo).map u8v := by
    rw [List.take_of_length_le (by simp), Nat.mul_one, List.map_drop]
  rw [e] at hc
  unfold RdB
  rw [List.length_drop]
  exact hc
/-- 'x[lo:]', its address a letter. -/
theorem RdB.cutFrom (t e : TypeId) (ht : P.underlying t = some (.slice e)) (hsz : (P.info? e).map (·.size) = some 1) {w : World} {A : Option Addr} {n c : Nat} {bs : List UInt8} (h : RdB w (.slice A n c) bs) (lo : Nat) (h1 : lo ≤ n) :
    ∃ A', (∀ W : World, (Instr.slice t (.slice A n c) (some (.int .i64 (lo : Int))) none none).run P W = .ok (.slice A' (n - lo) (c - lo)) W) ∧ RdB w (.slice A' (n - lo) (c - lo)) (bs.drop lo) ∧ ∀ B, Lo B A n → Lo B A' (n - lo) :=
  ⟨_, fun W => run_cut_from t e 1 ht hsz A n c lo h1 W, RdB.from h lo h1, fun B hB hn ad had => by
    split at had
    · exact hB (by omega) ad had
    · rcases A with _ | ad'
      · cases had
      · simp only [Option.map_some, Option.some.injEq] at had
        subst had
        have := hB (by omega) ad' rfl
        unfold Addr.add
        split <;> exact this⟩
/-- 'x[lo:hi]', its address a letter. -/
theorem RdB.cut (t e : TypeId) (ht : P.underlying t = some (.slice e)) (hsz : (P.info? e).map (·.size) = some 1) {w : World} {A : Option Addr} {n c : Nat} {bs : List UInt8} (h : RdB w (.slice A n c) bs) (lo hi : Nat) (h1 : lo ≤ hi) (h2 : hi ≤ n) :
    ∃ A', (∀ W : World, (Instr.slice t (.slice A n c) (some (.int .i64 (lo : Int))) (some (.int .i64 (hi : Int))) none).run P W = .ok (.slice A' (hi - lo) (c - lo)) W) ∧ RdB w (.slice A' (hi - lo) (c - lo)) ((bs.drop lo).take (hi - lo)) := by
  obtain ⟨A', c', he, h3, h4, h5⟩ := RdB.form h
  injection he with e1 e2 e3
  subst e1 e2 e3
  refine ⟨_, fun W => run_cut t e 1 ht hsz A _ c lo hi h1 (by omega) W, ?_⟩
  have hc := RdS.cut h lo hi h1 h2
  have e1 : ((bs.drop lo).take (hi - lo)).length = hi - lo := by rw [List.length_take, List.length_drop]; omega
  unfold RdB
  rw [e1]
  simpa [List.map_take, List.map_drop] using hc
end

/-- A block of two cells, the first one a slice of bytes. -/
def Rdr (t : TypeId) (w : World) (B : Nat) (l : List UInt8) (bad : Bool) : Prop :=
  ∃ A n c, w.heap[B]? = some (.cells #[.slice A n c, .bool bad] t (0, 0)) ∧ RdB w (.slice A n c) l ∧ Lo B A n
theorem two_cell {w : World} {B : Nat} {x y : Value} {t : TypeId} (h : w.heap[B]? = some (.cells #[x, y] t (0, 0))) :
    w.cell? ⟨B, 0, none⟩ = some x ∧ w.cell? ⟨B, 1, none⟩ = some y ∧ w.frozen? ⟨B, 0, none⟩ = false ∧ w.frozen? ⟨B, 1, none⟩ = false := by
  refine ⟨?_, ?_, ?_, ?_⟩ <;> simp [World.cell?, World.frozen?, h]
theorem two_set0 {w : World} {B : Nat} {x y : Value} {t : TypeId} (h : w.heap[B]? = some (.cells #[x, y] t (0, 0))) (v : Value) :
    (w.setCell ⟨B, 0, none⟩ v).heap[B]? = some (.cells #[v, y] t (0, 0)) := by
  simp [World.setCell, Array.getElem?_modify, h]
theorem two_set1 {w : World} {B : Nat} {x y : Value} {t : TypeId} (h : w.heap[B]? = some (.cells #[x, y] t (0, 0))) (v : Value) :
    (w.setCell ⟨B, 1, none⟩ v).heap[B]? = some (.cells #[x, v] t (0, 0)) := by
  simp [World.setCell, Array.getElem?_modify, h]
theorem grown_set (w : World) (B off : Nat) (v : Value) : w.grownBy (w.setCell ⟨B, off, none⟩ v) (some B) :=
  ⟨rfl, rfl, rfl, by simp [World.setCell], fun k _ hk => Below.heap_setCell _ _ _ _ (fun e => hk (by rw [e]))⟩
theorem grown_trans {a b c : World} {row : Option Nat} (h : a.grownBy b row) (k : b.grownBy c row) : a.grownBy c row :=
  ⟨k.os.trans h.os, k.tape.trans h.tape, k.output.trans h.output, Nat.le_trans h.size k.size, fun i hi hr => (k.block i (Nat.lt_of_lt_of_le hi h.size) hr).trans (h.block i hi hr)⟩
/-- Bytes lie in no block whose cells are a slice and a bool. -/
theorem RdB.apart {w w' : World} {B : Nat} {x : Value} {A : Option Addr} {n c : Nat} {y : Bool} {t : TypeId} {l : List UInt8} (h : w.heap[B]? = some (.cells #[.slice A n c, .bool y] t (0, 0))) (hr : RdB w x l)
    (hg : w.grownBy w' (some B)) : RdB w' x l := by
  obtain ⟨hl, A', c', rfl, h1, h2, h3, h4⟩ := hr
  refine ⟨hl, A', c', rfl, h1, h2, h3, fun ad ha j u hu => ?_⟩
  have hc := h4 ad ha j u hu
  have hne : (ad.add j).block ≠ B := by
    intro e
    have hu' : ∃ b, u = u8v b := by
      obtain ⟨hj, rfl⟩ := List.getElem?_eq_some_iff.1 hu
      exact ⟨l[j]'(by simpa using hj), by simp⟩
    obtain ⟨b, rfl⟩ := hu'
    unfold World.cell? at hc
    rw [e, h] at hc
    simp only at hc
    split at hc
    · cases hc
    · rcases hoff : (ad.add j).off with _ | _ | q
      · rw [hoff] at hc; simp [u8v] at hc
      · rw [hoff] at hc; simp [u8v] at hc
      · rw [hoff] at hc; simp at hc
  exact hg.cell hc (by simpa using hne)
theorem Rdr.lt {t : TypeId} {w : World} {B : Nat} {l : List UInt8} {bad : Bool} (h : Rdr t w B l bad) : B < w.heap.size := by
  obtain ⟨A, n, c, h, _⟩ := h
  exact (Array.getElem?_eq_some_iff.1 h).1
theorem Rdr.below {t : TypeId} {w w' : World} {B : Nat} {l : List UInt8} {bad : Bool} (h : Rdr t w B l bad) (hb : Below w.heap.size w w') : Rdr t w' B l bad := by
  have hlt := h.lt
  obtain ⟨A, n, c, h1, h2, h3⟩ := h
  exact ⟨A, n, c, by rw [hb.block B hlt]; exact h1, h2.below hb, h3⟩
theorem Rdr.set {t : TypeId} {w : World} {B : Nat} {l : List UInt8} {bad : Bool} (h : Rdr t w B l bad) {A' : Option Addr} {n' c' : Nat} {l' : List UInt8} (hx : RdB w (.slice A' n' c') l') (hlo : Lo B A' n') (bad' : Bool) :
    Rdr t ((w.setCell ⟨B, 0, none⟩ (.slice A' n' c')).setCell ⟨B, 1, none⟩ (.bool bad')) B l' bad' := by
  obtain ⟨A, n, c, h1, h2, _⟩ := h
  exact ⟨A', n', c', two_set1 (two_set0 h1 _) _, hx.apart h1 (grown_trans (grown_set _ _ _ _) (grown_set _ _ _ _)), hlo⟩
theorem Rdr.set0 {t : TypeId} {w : World} {B : Nat} {l : List UInt8} {bad : Bool} (h : Rdr t w B l bad) {A' : Option Addr} {n' c' : Nat} {l' : List UInt8} (hx : RdB w (.slice A' n' c') l') (hlo : Lo B A' n') :
    Rdr t (w.setCell ⟨B, 0, none⟩ (.slice A' n' c')) B l' bad := by
  obtain ⟨A, n, c, h1, h2, _⟩ := h
  exact ⟨A', n', c', two_set0 h1 _, hx.apart h1 (grown_set _ _ _ _), hlo⟩
/-- What turns in blocks behind the reader's leaves it as it stands. -/
theorem Rdr.grown {t : TypeId} {w W : World} {B : Nat} {l : List UInt8} {bad : Bool} (h : Rdr t w B l bad) {row : Option Nat} (hg : w.grownBy W row) (hrow : ∀ b, row = some b → B < b) : Rdr t W B l bad := by
  have hlt := h.lt
  obtain ⟨A, n, c, h1, h2, h3⟩ := h
  refine ⟨A, n, c, ?_, ?_, h3⟩
  · rw [hg.block B hlt (fun e => by have := hrow B e.symm; omega)]
    exact h1
  · obtain ⟨hl, A', c', he, k1, k2, k3, k4⟩ := h2
    injection he with e1 e2 e3
    subst e1 e2 e3
    refine ⟨hl, A, c, rfl, k1, k2, k3, fun ad had j u hu => ?_⟩
    have hc := k4 ad had j u hu
    have hn : l.length ≠ 0 := by
      have := (List.getElem?_eq_some_iff.1 hu).1
      simp at this
      omega
    have hb := h3 hn ad had
    have e : (ad.add j).block = ad.block := by unfold Addr.add; split <;> rfl
    exact hg.cell hc (fun e2 => by have := hrow _ e2.symm; omega)
theorem RdB.nil (w : World) : RdB w (.slice none 0 0) [] := (OwS.nil w 0 5 1).rd


theorem Rdr.keep {t : TypeId} {w w' : World} {B : Nat} {l : List UInt8} {bad : Bool} (h : Rdr t w B l bad) {x : Value} {bs : List UInt8} (hx : RdB w x bs) (hg : w.grownBy w' (some B)) : RdB w' x bs := by
  obtain ⟨A, n, c, h1, h2, _⟩ := h
  exact hx.apart h1 hg
theorem below_grown {B0 B : Nat} {w0 w w' : World} (h : Below B0 w0 w) (hg : w.grownBy w' (some B)) (hB : B0 ≤ B) (hw : B0 ≤ w.heap.size) : Below B0 w0 w' :=
  h.grown hg hw (fun k hk => by injection hk with hk; omega)
theorem below_size {w0 w : World} {B0 : Nat} (h : Below B0 w0 w) : w0.heap.size ≤ w.heap.size := h.size
section
variable {P : Program}
/-- string(b) of bytes that are read. -/
theorem run_str (src dst e : TypeId) (hs : P.underlying src = some (.slice e)) (he : P.underlying e = some (.int .u8)) (hd : P.underlying dst = some .string) {w : World} {v : Value} {bs : List UInt8} (h : RdB w v bs) :
    (convert src dst v).run P w = .ok (.string ⟨bs.toArray⟩) w := by
  obtain ⟨hl, A, c, rfl, h1, h2, h3, h4⟩ := h
  rcases A with _ | ad
  · have := h3 rfl
    have hb : bs = [] := List.eq_nil_of_length_eq_zero (by omega)
    subst hb
    exact run_convert_bytes_nil w src e hs he 0 c dst hd
  · have hload : (loadCells ad bs.length).run P w = .ok (bs.map u8v).toArray w := by
      have := run_loadCells_list (P := P) w ad (bs.map u8v) (fun j v hj => h4 ad rfl j v hj)
      simpa using this
    have hload' : (loadCells ad bs.length).run P w = .ok ((bs.map fun b => (b.toNat : Int)).map (Value.int .u8)).toArray w := by rw [hload, List.map_map]; rfl
    rw [run_convert_bytes_string w src dst e _ bs.length c hs he hd, run_bytesToString w _ bs.length c _ hload', foldl_push_bytes]
    have hm : ((bs.map fun b => (b.toNat : Int)).map fun n => UInt8.ofNat n.toNat) = bs := by
      rw [List.map_map]
      conv => rhs; rw [← List.map_id bs]
      refine List.map_congr_left fun x _ => ?_
      simp
    rw [hm]
    simp [ByteArray.empty, ByteArray.emptyWithCapacity]
    rfl
theorem wpList_str {w : World} {ops : Array Oper} {rest : List Oper} {o : Oper} {a : Act} {Q : Exit → Act → World → Prop} (hgd : o.guard = none ∨ Region.wanted o (yielded ops a.tmps) = true) (x : Operand) (src dst e : TypeId) (ho : o.op = .convert src dst x)
    (hs : P.underlying src = some (.slice e)) (he : P.underlying e = some (.int .u8)) (hd : P.underlying dst = some .string) (v : Value) (hx : a.eval x = v) (bs : List UInt8) (h : RdB w v bs)
    (hK : wpList P ops Q rest (a.put o.dst (.string ⟨bs.toArray⟩)) w) : wpList P ops Q (o :: rest) a w := by
  have hr := run_str (P := P) src dst e hs he hd h
  refine wpList_step fun K hK' => ?_
  have hwant : Region.wanted o (yielded ops a.tmps) = true := by
    rcases hgd with h | h
    · simp [Region.wanted, h]
    · exact h
  rw [if_pos hwant]
  unfold Oper.wp execOp
  simp only [ho, Sem.run_bind, hx, hr, Sem.run_pure, Result.andThen_ok]
  exact hK' _ _ hK
end

/-! Whole numbers -/
def u64v (n : Nat) : Value := .int .u64 (n : Int)
abbrev RdU (w : World) (v : Value) (l : List Nat) : Prop := RdS w 1 v l.length (l.map u64v)
abbrev OwU (w : World) (base : Nat) (e : TypeId) (v : Value) (l : List Nat) : Prop := OwS w base e 1 v l.length (l.map u64v)
theorem u64v_one (l : List Nat) : ∀ u ∈ l.map u64v, u.oneCell' = true := by
  intro u hu
  obtain ⟨_, _, rfl⟩ := List.mem_map.1 hu
  rfl
theorem RdU.form {w : World} {v : Value} {l : List Nat} (h : RdU w v l) : ∃ A c, v = .slice A l.length c ∧ l.length ≤ c ∧ c ≤ maxLen ∧ (A = none → c = 0) := by
  obtain ⟨_, A, c, h1, h2, h3, h4, _⟩ := h
  exact ⟨A, c, h1, h2, h3, h4⟩
theorem RdU.at {w : World} {A : Option Addr} {n c : Nat} {l : List Nat} (h : RdU w (.slice A n c) l) (j : Nat) (hj : j < l.length) : ∃ ad, A = some ad ∧ w.cell? (ad.add j) = some (.int .u64 (l.getD j 0 : Int)) := by
  obtain ⟨_, A', c', h1, h2, h3, h4, h5⟩ := h
  injection h1 with e1 e2 e3
  subst e1 e2 e3
  rcases A with _ | ad
  · have := h4 rfl; omega
  · exact ⟨ad, rfl, h5 ad rfl j _ (by simp [u64v, List.getD_eq_getElem?_getD, List.getElem?_eq_getElem hj])⟩
theorem OwU.empty (w : World) (base : Nat) (e : TypeId) (hb : base ≤ w.heap.size) : OwU (w.alloc (.cells #[] e)) base e (.slice (some ⟨w.heap.size, 0, none⟩) 0 0) [] :=
  OwS.lit w base e 1 0 #[] hb (by decide) rfl
theorem RdU.one (w : World) (e : TypeId) (n : Nat) (x : Int) (hx : x = (n : Int)) : RdU (w.alloc (.cells #[.int .u64 x] e)) (.slice (some ⟨w.heap.size, 0, none⟩) 1 1) [n] := by
  subst hx
  exact (OwS.lit w w.heap.size e 1 1 #[.int .u64 (n : Int)] (Nat.le_refl _) (by decide) rfl).rd
theorem RdU.nil (w : World) : RdU w (.slice none 0 0) [] := (OwS.nil w 0 0 1).rd
/-- A slice of numbers that came in. -/
def IsRow (k : IntKind) (w : World) (a : Option Addr) (len cap : Nat) (zs : List Int) : Prop :=
  (a = none ∧ len = 0 ∧ cap = 0 ∧ zs = []) ∨
  ∃ x, a = some x ∧ len ≤ cap ∧ cap ≤ maxLen ∧ zs.length = cap ∧ (∀ i, i < zs.length → w.cell? (x.add i) = some (.int k (zs.getD i 0))) ∧ ∀ n ∈ zs, (Lit.int k n).wf = true
theorem IsRow.rd {k : IntKind} {w : World} {a : Option Addr} {len cap : Nat} {zs : List Int} (h : IsRow k w a len cap zs) : RdS w 1 (.slice a len cap) len ((zs.take len).map (Value.int k)) ∧ (zs.take len).length = len ∧ ∀ n ∈ zs, (Lit.int k n).wf = true := by
  rcases h with ⟨rfl, rfl, rfl, rfl⟩ | ⟨x, rfl, h1, h2, h3, h4, h5⟩
  · exact ⟨⟨by simp, none, 0, rfl, Nat.le_refl _, Nat.zero_le _, fun _ => rfl, fun _ h => by cases h⟩, rfl, by simp⟩
  · refine ⟨⟨by simp; omega, some x, cap, rfl, h1, h2, (fun h => by cases h), ?_⟩, by rw [List.length_take]; omega, h5⟩
    rintro ad had j u hu
    obtain rfl := Option.some.inj had
    rw [List.getElem?_map] at hu
    obtain ⟨y, hy, rfl⟩ := Option.map_eq_some_iff.1 hu
    rw [List.getElem?_take] at hy
    split at hy
    · have hj := (List.getElem?_eq_some_iff.1 hy).1
      rw [h4 j hj, List.getD_eq_getElem?_getD, hy]
      rfl
    · cases hy
/-- Numbers that are not negative, as natural numbers. -/
theorem nats_of (zs : List Int) (h : ∀ z ∈ zs, 0 ≤ z) : ∃ l : List Nat, zs = l.map (fun n : Nat => (n : Int)) := by
  refine ⟨zs.map Int.toNat, ?_⟩
  rw [List.map_map]
  conv => lhs; rw [← List.map_id zs]
  refine List.map_congr_left fun x hx => ?_
  have := h x hx
  simp; omega
theorem IsRow.rdU {w : World} {a : Option Addr} {len cap : Nat} {zs : List Int} (h : IsRow .u64 w a len cap zs) : ∃ l : List Nat, l.length = len ∧ RdU w (.slice a len cap) l ∧ ∀ n ∈ l, n < 18446744073709551616 := by
  obtain ⟨h1, h2, h3⟩ := h.rd
  have hb : ∀ z ∈ zs.take len, 0 ≤ z ∧ z ≤ 18446744073709551615 := fun z hz => bounds_u64 (h3 z (List.mem_of_mem_take hz))
  obtain ⟨l, hl⟩ := nats_of (zs.take len) (fun z hz => (hb z hz).1)
  have hll : l.length = len := by rw [← h2, hl, List.length_map]
  refine ⟨l, hll, ?_, fun n hn => ?_⟩
  · have e : (zs.take len).map (Value.int .u64) = l.map u64v := by rw [hl, List.map_map]; rfl
    unfold RdU
    rw [hll, ← e]
    exact h1
  · have := (hb (n : Int) (by rw [hl]; exact List.mem_map.2 ⟨n, hn, rfl⟩)).2
    omega
/-- What a slice that came in takes up. -/
theorem sized_ints {H : Type} {enc : TypeId × Value → H} {P : Program} {W : World} {base : Nat} {spare : Nat → Bool} {held : Bool} {ts : List TypeId} {ds : List (DataW H)} {j : Nat} {t e : TypeId} {k : IntKind} {a : Option Addr} {len cap : Nat}
    {d : DataW H} {ps : List MemPlace} (hsz : (DataW.weightsEach P ts ds).all (· ≤ reachBytes) = true) (ht : ts[j]? = some t) (hd : ds[j]? = some d) (hu : P.underlying t = some (.slice e)) (he : P.underlying e = some (.int k)) (hc : P.cellsOf e = 1)
    {n : Nat} (hn : P.bytesOf e = n) (h : DataW.Trod enc P W base spare held t (.slice a len cap) d ps) : len * n ≤ 140737488351232 := by
  obtain ⟨fuel, hf⟩ := h
  rcases open_ints hu he hc hf with ⟨hcs, _⟩ | ⟨x, l, c, zs, hcs, _, hl, _, hz, hx, _, _⟩
  · simp [Value.cells] at hcs
    obtain ⟨-, rfl, -⟩ := hcs
    omega
  · simp [Value.cells] at hcs
    obtain ⟨rfl, rfl, rfl⟩ := hcs
    have z := sized_slice hsz ht (by rw [hd, (Prod.mk.inj hx).1]) hu
    have hlen : len ≤ zs.length := by
      rw [hz]
      split <;> omega
    have hsum : (lits (H := H) k (zs.take len)).length + (lits (H := H) k (zs.drop len)).length = zs.length := by
      simp only [lits, List.length_map, List.length_take, List.length_drop]
      omega
    rw [hsum, hn] at z
    exact Nat.le_trans (Nat.mul_le_mul_right _ hlen) z

/-- One element of a row of one's own. -/
theorem OwS.cellAt {w : World} {base : Nat} {e : TypeId} {A : Option Addr} {n c : Nat} {xs : List Value} (h : OwS w base e 1 (.slice A n c) n xs) (i : Nat) (hi : i < n) :
    ∃ g off, A = some ⟨g, off, none⟩ ∧ base ≤ g ∧ w.cell? ⟨g, off + i, none⟩ = xs[i]? ∧ (w.cell? ⟨g, off + i, none⟩).isSome = true ∧ w.frozen? ⟨g, off + i, none⟩ = false := by
  rcases h.2 with ⟨h1, h2⟩ | ⟨g, off, cap, cur, h1, h2, h3, h4, h5, h6, h7⟩
  · omega
  · injection h1 with e1 e2 e3
    subst e1 e3
    refine ⟨g, off, rfl, h2, ?_, ?_, ?_⟩
    · subst h7
      simp only [World.cell?, h3]
      rw [List.getElem?_take_of_lt (by omega), List.getElem?_drop]
      simp
    · simp only [World.cell?, h3]
      simp
      omega
    · simp [World.frozen?, h3]
theorem OwS.set {w : World} {base : Nat} {e : TypeId} {g off n c : Nat} {xs : List Value} (h : OwS w base e 1 (.slice (some ⟨g, off, none⟩) n c) n xs) (i : Nat) (hi : i < n) (u : Value) :
    OwS (w.setCell ⟨g, off + i, none⟩ u) base e 1 (.slice (some ⟨g, off, none⟩) n c) n (xs.set i u) := by
  refine ⟨by rw [List.length_set]; exact h.1, ?_⟩
  rcases h.2 with ⟨h1, h2⟩ | ⟨g', off', cap, cur, h1, h2, h3, h4, h5, h6, h7⟩
  · cases h1
  · injection h1 with e1 e2 e3
    injection e1 with e1
    injection e1 with e4 e5
    subst e3 e4 e5
    refine .inr ⟨g, off, c, cur.setIfInBounds (off + i) u, rfl, h2, ?_, h4, h5, by simpa using h6, ?_⟩
    · simp [World.setCell, Array.getElem?_modify, h3]
    · subst h7
      rw [Array.toList_setIfInBounds]
      apply List.ext_getElem?
      intro j
      simp only [List.getElem?_take, List.getElem?_drop, List.getElem?_set, Nat.mul_one]
      have hcl : cur.toList.length = cur.size := Array.length_toList
      by_cases hj : j < n
      · simp only [hj, if_true]
        by_cases hij : i = j
        · subst hij
          have k1 : off + i < cur.toList.length := by omega
          have k2 : i < (List.take n (List.drop off cur.toList)).length := by rw [List.length_take, List.length_drop]; omega
          rw [if_pos rfl, if_pos k1, if_pos rfl, if_pos k2]
        · rw [if_neg (by omega), if_neg hij]
      · have k2 : ¬ i = j := by omega
        rw [if_neg k2, if_neg hj, if_neg hj]
end Go.Proofs.YtodcbcpjlhlakaaDoor.B
