/- Tx: a transaction of two numbers. -/
import Derived.Test.YtfggkljgfadacaaT22
set_option linter.unusedVariables false
set_option linter.unusedSimpArgs false
namespace Go.Proofs.Ytfggkljgfadacaa.W
open Go.RowKit Go.Proofs.Ytfggkljgfadacaa.B Go.Proofs

def inOf (m : Int) (i : Nat) : LIn :=
  { prev := [u8i (m / 2 ^ (3 * i))] ++ List.replicate 30 0 ++ [u8i (i : Int)], vout := (m / 2 ^ (2 * i) % 4).toNat, script := if m / 262144 % 4 = 0 then [u8i (m / 16)] else [],
    seq := (4294967295 - m / 2 ^ (8 + i) % 4).toNat, wit := if m / 2 ^ (12 + i) % 4 = 0 then [[u8i m], []].take (m / 65536 % 2 + 1).toNat else [] }
def outOf (n m : Int) (i : Nat) : LOut := { value := (n / 2 ^ (12 + i) % 4096).toNat, script := scriptB (m / 2 ^ i) }
def txOf (n m : Int) : LTx :=
  { ver := (n % 4 + 1).toNat, ins := (List.range (n / 256 % 4 + 1).toNat).map (inOf m), outs := (List.range (n / 1024 % 4 + 1).toNat).map (outOf n m), lock := (n / 4 % 2 * (n / 8 % 32)).toNat }
theorem built55b (a b : Int) : Try.prog.built 55 [(1, .int .u32 a), (3, .int .u32 b)] = some ((Z32 ++ [Value.int .u32 a, Value.slice none 0 0, Value.int .u32 b, Value.slice none 0 0] : List Value).toArray) := by
  obtain ⟨it, hi, hzz⟩ := Option.map_eq_some_iff.1 info55
  simp only [Prod.mk.injEq] at hzz
  rw [built_of Try.underlying55 hi hzz.1 (places := [(0, 32), (32, 1), (33, 1), (34, 1), (35, 1)]) (by kernel_rfl)]
  have hz32 : Z32.length = 32 := rfl
  have h1 := fill_step (([(0, 32), (32, 1), (33, 1), (34, 1), (35, 1)] : List (Nat × Nat)).toArray[·]?) 1 32 [Value.int .u32 a] (.int .u32 a) rfl rfl Z32 [Value.int .u32 0] [Value.slice none 0 0, Value.int .u32 0, Value.slice none 0 0] hz32 rfl [(3, .int .u32 b)]
  have h2 := fill_step (([(0, 32), (32, 1), (33, 1), (34, 1), (35, 1)] : List (Nat × Nat)).toArray[·]?) 3 34 [Value.int .u32 b] (.int .u32 b) rfl rfl (Z32 ++ [Value.int .u32 a, Value.slice none 0 0]) [Value.int .u32 0] [Value.slice none 0 0] (by simp [hz32]) rfl []
  simp only [List.append_assoc, List.singleton_append, List.cons_append, List.nil_append] at h1 h2
  exact h1.trans (h2.trans rfl)
/-- Blocks from 'lo' on and ahead of 'hi' are as they were. -/
def Agr (lo hi : Nat) (w w' : World) : Prop := ∀ b, lo ≤ b → b < hi → w'.heap[b]? = w.heap[b]?
theorem OwS.agree {w w' : World} {base hi : Nat} {e : TypeId} {size : Nat} {v : Value} {n : Nat} {xs : List Value} (h : OwS w base e size v n xs) (ha : Agr base hi w w') (hl : ∀ k, v.ownBlock = some k → k < hi) : OwS w' base e size v n xs := by
  refine ⟨h.1, ?_⟩
  rcases h.2 with h | ⟨g, off, cap, cur, rfl, h2, h3, h4⟩
  · exact .inl h
  · exact .inr ⟨g, off, cap, cur, rfl, h2, by rw [ha g h2 (hl g rfl)]; exact h3, h4⟩
theorem El.agree {w w' : World} {base : Nat} {own : Option Nat} {u : Value} {b : List UInt8} (h : El w base own u b) (ha : Agr base w.heap.size w w') : El w' base own u b := ⟨OwS.agree h.1 ha (fun k hk => (h.1.lt k hk).2), h.2⟩
theorem OwV.agree {w w' : World} {base : Nat} {own : Option Nat} {v : Value} {ws : List (List UInt8)} (h : OwV w base own v ws) (ha : Agr base w.heap.size w w') : OwV w' base own v ws := by
  obtain ⟨us, h1, h2, h3⟩ := h
  refine ⟨us, OwS.agree h1 ha (fun k hk => (h1.lt k hk).2), h2, fun i b hb => ?_⟩
  obtain ⟨u, q1, q2, q3⟩ := h3 i b hb
  exact ⟨u, q1, q2.agree ha, q3⟩
theorem InE.agree {base : Nat} {w w' : World} (ha : Agr base w.heap.size w w') : ∀ own cs x, InE base w own cs x → InE base w' own cs x := by
  rintro own cs x ⟨sv, wv, rfl, h1, h2, h3, h4⟩
  exact ⟨sv, wv, rfl, h1, h2.agree ha, h3.agree ha, h4⟩
theorem OwG.agree {base : Nat} {w w' : World} {v : Value} {xs : List LIn} (h : OwG (InE base) 55 36 w base v xs) (ha : Agr base w.heap.size w w') : OwG (InE base) 55 36 w' base v xs := by
  obtain ⟨us, h1, h2⟩ := h
  exact ⟨us, OwS.agree h1 ha (fun k hk => (h1.lt k hk).2), fun i b hb => InE.agree ha _ _ _ (h2 i b hb)⟩
/-- A transaction of one's own, all of its inputs ahead of its outputs. -/
def OwT2 (w : World) (base : Nat) (cs : List Value) (t : LTx) : Prop :=
  ∃ iv ov mid, cs = [.int .u32 (t.ver : Int), iv, ov, .int .u32 (t.lock : Int)] ∧ OwG (InE base) 55 36 w base iv t.ins ∧ OwG (OutE mid) 57 2 w mid ov t.outs ∧ base ≤ mid ∧ (∀ k, iv.ownBlock = some k → k < mid) ∧ t.ver < 4294967296 ∧ t.lock < 4294967296 ∧
    ∀ w', Agr base mid w w' → OwG (InE base) 55 36 w' base iv t.ins
theorem OwT2.own {w : World} {base : Nat} {cs : List Value} {t : LTx} (h : OwT2 w base cs t) : OwTx w base cs t := by
  obtain ⟨iv, ov, mid, h1, h2, h3, h4, h5, h6, h7, _⟩ := h
  exact ⟨iv, ov, mid, h1, h2, h3, h4, h5, h6, h7⟩
theorem OwT2.rd {w : World} {base : Nat} {cs : List Value} {t : LTx} (h : OwT2 w base cs t) : TxC w cs t := h.own.rd
theorem agr_trans {lo hi : Nat} {a b c : World} (h : Agr lo hi a b) (k : Agr lo hi b c) : Agr lo hi a c := fun j h1 h2 => (k j h1 h2).trans (h j h1 h2)
theorem agr_grown {lo hi : Nat} {w w' : World} {row : Option Nat} (hg : w.grownBy w' row) (hs : hi ≤ w.heap.size) (hr : ∀ k, row = some k → k < lo ∨ hi ≤ k) : Agr lo hi w w' := fun j h1 h2 => hg.block j (by omega) (fun e => by have := hr j e.symm; omega)
/-- How Tx stands while it makes its inputs: the result's block, the transaction's block G. -/
def TI (w W : World) (G V L : Nat) (iv : Value) (xs : List LIn) : Prop :=
  Below w.heap.size w W ∧ Box W w.heap.size zTx 51 ∧ Box W G #[.int .u32 (V : Int), iv, .slice none 0 0, .int .u32 (L : Int)] 51 ∧ G = w.heap.size + 1 ∧ OwG (InE (G + 1)) 55 36 W (G + 1) iv xs
theorem TI.below {w W W' : World} {G V L : Nat} {iv : Value} {xs : List LIn} (h : TI w W G V L iv xs) (hb : Below W.heap.size W W') : TI w W' G V L iv xs := by
  obtain ⟨h1, h2, h3, h4, h5⟩ := h
  exact ⟨h1.trans (hb.mono h1.size), h2.below hb, h3.below hb, h4, OwG.same (InE.below hb) h5 hb⟩
theorem TI.lt {w W : World} {G V L : Nat} {iv : Value} {xs : List LIn} (h : TI w W G V L iv xs) : G < W.heap.size := h.2.2.1.lt
theorem TI.cells {w W : World} {G V L : Nat} {iv : Value} {xs : List LIn} (h : TI w W G V L iv xs) : W.cell? ⟨G, 1, none⟩ = some iv ∧ W.frozen? ⟨G, 1, none⟩ = false := ⟨h.2.2.1.cell 1 _ rfl, h.2.2.1.frozen 1⟩
/-- A store into a block X that is younger than G and is no row's. -/
theorem TI.set {w W : World} {G V L : Nat} {iv : Value} {xs : List LIn} (h : TI w W G V L iv xs) (X o : Nat) (u : Value) (hX : G < X) (hlt : ∀ k, iv.ownBlock = some k → k < X) (hin : ∀ cs x, InE (G + 1) W iv.ownBlock cs x → InE (G + 1) (W.setCell ⟨X, o, none⟩ u) iv.ownBlock cs x) : TI w (W.setCell ⟨X, o, none⟩ u) G V L iv xs := by
  obtain ⟨h1, h2, h3, h4, h5⟩ := h
  have hg := grown_set W X o u
  exact ⟨h1.grown hg h1.size (fun k hk => by injection hk with hk; omega), h2.grown hg (fun e => by injection e with e; omega), h3.grown hg (fun e => by injection e with e; omega), h4, OwG.kept hin h5 hg (fun k hk e => by injection e with e; have := hlt k hk; omega)⟩
theorem size24 : (Try.prog.info? 24).map (·.size) = some 1 := by kernel_rfl
/-- How Tx stands while it makes its outputs: w0 is the world ahead of them. -/
def TO (w0 W : World) (G V L : Nat) (iv ov : Value) (mid : Nat) (ys : List LOut) : Prop :=
  w0.grownBy W (some G) ∧ Box W G #[.int .u32 (V : Int), iv, ov, .int .u32 (L : Int)] 51 ∧ OwG (OutE mid) 57 2 W mid ov ys ∧ G + 1 ≤ mid ∧ mid = w0.heap.size
theorem TO.cells {w0 W : World} {G V L : Nat} {iv ov : Value} {mid : Nat} {ys : List LOut} (h : TO w0 W G V L iv ov mid ys) : W.cell? ⟨G, 2, none⟩ = some ov ∧ W.frozen? ⟨G, 2, none⟩ = false := ⟨h.2.1.cell 2 _ rfl, h.2.1.frozen 2⟩
theorem TO.size {w0 W : World} {G V L : Nat} {iv ov : Value} {mid : Nat} {ys : List LOut} (h : TO w0 W G V L iv ov mid ys) : mid ≤ W.heap.size := by rw [h.2.2.2.2]; exact h.1.size
theorem TO.below {w0 W W' : World} {G V L : Nat} {iv ov : Value} {mid : Nat} {ys : List LOut} (h : TO w0 W G V L iv ov mid ys) (hb : Below W.heap.size W W') : TO w0 W' G V L iv ov mid ys := by
  obtain ⟨h1, h2, h3, h4⟩ := h
  exact ⟨grown_far h1 (grown_none hb) (fun k hk => by cases hk), h2.below hb, OwG.same (OutE.below hb) h3 hb, h4⟩
/-- 'x[:hi]' of a row of one's own. -/
theorem OwS.cutTo {w : World} {base : Nat} {e : TypeId} {size : Nat} {A : Option Addr} {n c : Nat} {xs : List Value} (h : OwS w base e size (.slice A n c) n xs) (hi : Nat) (hn : hi ≤ n) : OwS w base e size (.slice A hi c) hi (xs.take (hi * size)) := by
  have hm : hi * size ≤ n * size := Nat.mul_le_mul_right _ hn
  refine ⟨by rw [List.length_take, h.1]; omega, ?_⟩
  rcases h.2 with ⟨q, h0⟩ | ⟨g, off, cap, cur, q, q1, q2, q3, q4, q5, q6⟩
  · injection q with e1 e2 e3
    subst e1 e3
    have h00 : hi = 0 := by omega
    subst h00
    exact .inl ⟨rfl, rfl⟩
  · injection q with e1 e2 e3
    subst e1 e3
    refine .inr ⟨g, off, c, cur, rfl, q1, q2, by omega, q4, q5, ?_⟩
    rw [← q6, List.take_take, Nat.min_eq_left hm]
theorem txOf_ver (n m : Int) : (txOf n m).ver < 4294967296 := by show (n % 4 + 1).toNat < _; omega
theorem txOf_lock (n m : Int) : (txOf n m).lock < 4294967296 := by
  show (n / 4 % 2 * (n / 8 % 32)).toNat < _
  rcases (show n / 4 % 2 = 0 ∨ n / 4 % 2 = 1 by omega) with h | h <;> rw [h] <;> omega
theorem prev_in (m : Int) (i : Nat) : (inOf m i).prev.length = 32 := by simp [inOf]
set_option maxHeartbeats 4000000 in
set_option maxRecDepth 100000 in
theorem tx_any (n m : Int) (w : World) : Calls Try.prog 51 #[.int .i64 n, .int .i64 m] w fun e w' => ∃ cs, e = .returned (.agg cs.toArray) ∧ OwT2 w' w.heap.size cs (txOf n m) ∧ Below w.heap.size w w' := by
  obtain ⟨V, hV⟩ : ∃ V : Nat, bits .and .i64 n 3 = (V : Int) := ⟨(n % 4).toNat, by rw [i64_mask n 3 2 (by decide) (by decide)]; omega⟩
  have HV : As ((txOf n m).ver = V + 1) := ⟨by rw [i64_mask n 3 2 (by decide) (by decide)] at hV; show (n % 4 + 1).toNat = V + 1; omega⟩
  have hV4 : (V : Int) ≤ 3 := by rw [← hV, i64_mask n 3 2 (by decide) (by decide)]; omega
  obtain ⟨p, hp⟩ : ∃ p : Int, bits .and .i64 (n / 4) 1 = p := ⟨_, rfl⟩
  obtain ⟨q, hq⟩ : ∃ q : Int, bits .and .i64 (n / 8) 31 = q := ⟨_, rfl⟩
  obtain ⟨L, hL, hL31, HL⟩ : ∃ L : Nat, p * q = (L : Int) ∧ (L : Int) ≤ 31 ∧ As ((txOf n m).lock = L) := by
    rw [i64_mask (n / 4) 1 1 (by decide) (by decide)] at hp
    rw [i64_mask (n / 8) 31 5 (by decide) (by decide)] at hq
    have hp2 : p = n / 4 % 2 := by omega
    have hq2 : q = n / 8 % 32 := by omega
    have : p = 0 ∨ p = 1 := by omega
    refine ⟨(p * q).toNat, ?_, ?_, ⟨by rw [hp2, hq2]; rfl⟩⟩
    · rcases this with h | h <;> rw [h] <;> omega
    · rcases this with h | h <;> rw [h] <;> omega
  obtain ⟨NI, hNI, hNI3, HNI⟩ : ∃ N : Nat, bits .and .i64 (n / 256) 3 = (N : Int) ∧ (N : Int) ≤ 3 ∧ As ((txOf n m).ins = (List.range (N + 1)).map (inOf m)) := by
    refine ⟨(n / 256 % 4).toNat, by rw [i64_mask (n / 256) 3 2 (by decide) (by decide)]; omega, by omega, ⟨?_⟩⟩
    show (List.range (n / 256 % 4 + 1).toNat).map (inOf m) = _
    rw [show (n / 256 % 4 + 1).toNat = (n / 256 % 4).toNat + 1 by omega]
  obtain ⟨NO, hNO, hNO3, HNO⟩ : ∃ N : Nat, bits .and .i64 (n / 1024) 3 = (N : Int) ∧ (N : Int) ≤ 3 ∧ As ((txOf n m).outs = (List.range (N + 1)).map (outOf n m)) := by
    refine ⟨(n / 1024 % 4).toNat, by rw [i64_mask (n / 1024) 3 2 (by decide) (by decide)]; omega, by omega, ⟨?_⟩⟩
    show (List.range (n / 1024 % 4 + 1).toNat).map (outOf n m) = _
    rw [show (n / 1024 % 4 + 1).toNat = (n / 1024 % 4).toNat + 1 by omega]
  go_enter Try.func51, Try.ntmps51
  go_upto_block 0 with fail
  have hS : TI w ((w.alloc (.cells zTx 51)).alloc (.cells #[.int .u32 ((V + 1 : Nat) : Int), .slice none 0 0, .slice none 0 0, .int .u32 (L : Int)] 51)) (w.heap.size + 1) (V + 1) L (.slice none 0 0) [] := by
    have hb1 : Below w.heap.size w (w.alloc (.cells zTx 51)) := below_al _ _
    have hb2 := below_al (w.alloc (.cells zTx 51)) (.cells #[.int .u32 ((V + 1 : Nat) : Int), .slice none 0 0, .slice none 0 0, .int .u32 (L : Int)] 51)
    refine ⟨hb1.trans (hb2.mono hb1.size), (Box.new w zTx 51).below hb2, ?_, rfl, OwG.nil⟩
    have := Box.new (w.alloc (.cells zTx 51)) #[.int .u32 ((V + 1 : Nat) : Int), .slice none 0 0, .slice none 0 0, .int .u32 (L : Int)] 51
    simpa using this
  have HS := As.mk hS
  clear hS
  obtain ⟨G, hG⟩ : ∃ G, G = w.heap.size + 1 := ⟨_, rfl⟩
  obtain ⟨R, hR⟩ : ∃ R, R = w.heap.size := ⟨_, rfl⟩
  rw [← hG] at HS ⊢
  rw [← hR]
  have HG1 := As.mk hG
  have HRR := As.mk hR
  clear hG hR hV hp hq hL hL31 hV4
  change Code.wp _ _ _ _ ((w.alloc (.cells zTx 51)).alloc (.cells #[.int .u32 ((V + 1 : Nat) : Int), .slice none 0 0, .slice none 0 0, .int .u32 (L : Int)] 51))
  generalize (w.alloc (.cells zTx 51)).alloc (.cells #[.int .u32 ((V + 1 : Nat) : Int), .slice none 0 0, .slice none 0 0, .int .u32 (L : Int)] 51) = W0 at HS ⊢
  go_upto_region 12 with fail
  go_loopw [6] (fun v6 wr => ∃ (k : Nat) (iv : Value), v6 = .int .i64 (k : Int) ∧ (k : Int) ≤ NI + 1 ∧ As (TI w wr G (V + 1) L iv ((List.range k).map (inOf m)))) (fun v6 _ => NI + 1 - (intOf v6).toNat)
  case atStart => exact ⟨0, _, rfl, by omega, HS⟩
  case round =>
    obtain ⟨k, iv, rfl, hk, HT⟩ := hrel
    by_cases hlt : (k : Int) < NI + 1
    · have hk3 : (k : Int) ≤ 3 := by omega
      obtain ⟨VO, hVO, hVO3⟩ : ∃ N : Nat, bits .and .i64 (m / 2 ^ (2 * k)) 3 = (N : Int) ∧ (N : Int) ≤ 3 := ⟨((inOf m k).vout), by rw [i64_mask _ 3 2 (by decide) (by decide)]; show _ = ((m / 2 ^ (2 * k) % 4).toNat : Int); omega, by show ((m / 2 ^ (2 * k) % 4).toNat : Int) ≤ 3; omega⟩
      have HVO : As ((inOf m k).vout = VO) := ⟨by rw [i64_mask _ 3 2 (by decide) (by decide)] at hVO; show (m / 2 ^ (2 * k) % 4).toNat = VO; omega⟩
      obtain ⟨sq, hsq, hsq0, hsq3, HSQ⟩ : ∃ N : Int, bits .and .i64 (m / 2 ^ (8 + k)) 3 = N ∧ 0 ≤ N ∧ N ≤ 3 ∧ As (((inOf m k).seq : Int) = 4294967295 - N) := ⟨_, rfl, by rw [i64_mask _ 3 2 (by decide) (by decide)]; omega, by rw [i64_mask _ 3 2 (by decide) (by decide)]; omega, ⟨by rw [i64_mask _ 3 2 (by decide) (by decide)]; show ((4294967295 - m / 2 ^ (8 + k) % 4).toNat : Int) = _; omega⟩⟩
      obtain ⟨c36, hc36⟩ : ∃ c, c = (Z32 ++ [Value.int .u32 (VO : Int), Value.slice none 0 0, Value.int .u32 (4294967295 - sq), Value.slice none 0 0] : List Value) := ⟨_, rfl⟩
      have HC36 := As.mk hc36
      have HCL : As (c36.length = 36) := ⟨by rw [hc36]; rfl⟩
      have H1 : As (∀ v ∈ c36, v.oneCell' = true) := ⟨by
        intro v hv
        rw [hc36] at hv
        rcases List.mem_append.1 hv with hv | hv
        · exact u8v_one _ v hv
        · simp at hv; rcases hv with rfl | rfl | rfl | rfl <;> rfl⟩
      clear hc36
      go_upto_region 6 with (first | ((with_reducible refine wpList_build_to (o := ⟨_, .build 55 #[(1, .tmp 36), (3, .tmp 44)], _, _, _, _⟩) ?hgd 55 _ rfl c36.toArray ?hf ?_); (case hgd => exact rfl); (case hf => rw [HC36.out]; simp only [List.map_toArray, List.map_cons, List.map_nil]; exact built55b _ _)) | ((with_reducible refine wpList_store_new (op := ⟨_, .store 55 (.tmp 7) (.tmp 45), _, _, _, _⟩) ?hgd 55 (.tmp 7) (.tmp 45) rfl (wr) ?cc55 c36 ?hw ?hx ?hy ?hi ?hc H1.out ?_); (case hgd => exact rfl); (case hw => exact rfl); (case hx => exact rfl); (case hy => exact rfl); (case hi => rw [HCL.out]; kernel_rfl); (case hc => rw [HCL.out]; exact rfl)))
      obtain ⟨X, hX⟩ : ∃ X, X = wr.heap.size := ⟨_, rfl⟩
      have HW1 : As (Below X wr (wr.alloc (.cells c36.toArray 55)) ∧ Box (wr.alloc (.cells c36.toArray 55)) X c36.toArray 55) := ⟨by rw [hX]; exact ⟨below_al _ _, Box.new _ _ _⟩⟩
      rw [← hX]
      have HX := As.mk hX
      clear hX H1 HCL
      generalize wr.alloc (.cells c36.toArray 55) = W1 at HW1 ⊢
      have q0 := Box.cell HW1.out.2 0 (.int .u8 0) (by rw [HC36.out]; rfl)
      have q31 := Box.cell HW1.out.2 31 (.int .u8 0) (by rw [HC36.out]; rfl)
      have f0 := Box.frozen HW1.out.2 0
      have f31 := Box.frozen HW1.out.2 31
      go_upto_region 7 with fail
      obtain ⟨pc, hpc⟩ : ∃ p, p = (inOf m k).prev.map u8v := ⟨_, rfl⟩
      have HPC := As.mk hpc
      have HPL : As (pc.length = 32) := ⟨by rw [hpc, List.length_map]; exact prev_in m k⟩
      have HW2 : As (Below X wr ((W1.setCell ⟨X, 0, none⟩ (.int .u8 (m / 2 ^ (3 * k) % 256))).setCell ⟨X, 31, none⟩ (.int .u8 (k : Int))) ∧ Box ((W1.setCell ⟨X, 0, none⟩ (.int .u8 (m / 2 ^ (3 * k) % 256))).setCell ⟨X, 31, none⟩ (.int .u8 (k : Int))) X (pc ++ [Value.int .u32 (VO : Int), Value.slice none 0 0, Value.int .u32 (4294967295 - sq), Value.slice none 0 0] : List Value).toArray 55) := ⟨by
        refine ⟨(HW1.out.1.setCell (Nat.le_refl _) _).setCell (Nat.le_refl _) _, ?_⟩
        have := Box.set (Box.set HW1.out.2 0 (.int .u8 (m / 2 ^ (3 * k) % 256))) 31 (.int .u8 (k : Int))
        rw [HC36.out] at this
        rw [hpc]
        have e : (((Z32 ++ [Value.int .u32 (VO : Int), Value.slice none 0 0, Value.int .u32 (4294967295 - sq), Value.slice none 0 0] : List Value).set 0 (.int .u8 (m / 2 ^ (3 * k) % 256))).set 31 (.int .u8 (k : Int))) = (inOf m k).prev.map u8v ++ [Value.int .u32 (VO : Int), Value.slice none 0 0, Value.int .u32 (4294967295 - sq), Value.slice none 0 0] := by
          have h1 : (u8v (u8i (m / 2 ^ (3 * k)))) = .int .u8 (m / 2 ^ (3 * k) % 256) := by unfold u8v; rw [u8i_val]
          have h2 : (u8v (u8i (k : Int))) = .int .u8 (k : Int) := by unfold u8v; rw [u8i_val]; congr 1; omega
          unfold inOf
          simp only [List.map_append, List.map_cons, List.map_nil, h1, h2]
          rfl
        rw [e] at this
        exact this⟩
      clear hpc q0 q31 f0 f31 HW1
      generalize (W1.setCell ⟨X, 0, none⟩ (.int .u8 (m / 2 ^ (3 * k) % 256))).setCell ⟨X, 31, none⟩ (.int .u8 (k : Int)) = W2 at HW2 ⊢
      obtain ⟨e3, he3⟩ : ∃ e, bits .and .i64 (m / 2 ^ (12 + k)) 3 = e := ⟨_, rfl⟩
      have HE3 : As (e3 = m / 2 ^ (12 + k) % 4) := ⟨by rw [← he3]; exact i64_mask _ 3 2 (by decide) (by decide)⟩
      obtain ⟨k2, hk2, hk21, HK2⟩ : ∃ K : Nat, bits .and .i64 (m / 65536) 1 = (K : Int) ∧ (K : Int) ≤ 1 ∧ As ((m / 65536 % 2 + 1).toNat = K + 1) := ⟨(m / 65536 % 2).toNat, by rw [i64_mask _ 1 1 (by decide) (by decide)]; omega, by omega, ⟨by omega⟩⟩
      go_upto_if 64 with fail
      go_cut [] (fun wc => ∃ wv, As (Below X wr wc ∧ Box wc X (pc ++ [Value.int .u32 (VO : Int), Value.slice none 0 0, Value.int .u32 (4294967295 - sq), wv] : List Value).toArray 55 ∧ OwW wc (X + 1) wv (inOf m k).wit))
      case first =>
        by_cases h0 : e3 = 0
        · have HE : As ((inOf m k).wit = [[u8i m], []].take (k2 + 1)) := ⟨by show (if m / 2 ^ (12 + k) % 4 = 0 then _ else _) = _; rw [if_pos (by rw [← HE3.out]; exact h0), HK2.out]⟩
          have h00 : (e3 == 0) = true := by rw [h0]; rfl
          have HB2 : As (Below W2.heap.size W2 ((W2.alloc (.cells #[.int .u8 (m % 256)] 5)).alloc (.cells #[.slice (some ⟨W2.heap.size, 0, none⟩) 1 1, .slice none 0 0] 24))) := ⟨((Below.refl _ _).alloc (Nat.le_refl _) _).alloc (by simp) _⟩
          have HZ2 := As.mk (Box.below HW2.out.2 HB2.out)
          have q35 := Box.cell HZ2.out 35 (.slice none 0 0) (by rw [List.getElem?_toArray, List.getElem?_append_right (by have := HPL.out; omega), HPL.out]; rfl)
          have f35 := Box.frozen HZ2.out 35
          have kc : ∀ (A : Option Addr) (W : World), (Instr.slice 43 (.slice A 2 2) none (some (.int .i64 ((k2 : Int) + 1))) none).run Try.prog W = .ok (.slice A (k2 + 1) 2) W := fun A W => run_cut_to (P := Try.prog) 43 24 1 Try.underlying43 size24 A 2 2 (k2 + 1) (by omega) W
          have HWW : As (OwW ((W2.alloc (.cells #[.int .u8 (m % 256)] 5)).alloc (.cells #[.slice (some ⟨W2.heap.size, 0, none⟩) 1 1, .slice none 0 0] 24)) (X + 1) (.slice (some ⟨W2.heap.size + 1, 0, none⟩) (k2 + 1) 2) (inOf m k).wit) := ⟨by
            have hX : X < W2.heap.size := HW2.out.2.lt
            rw [HE.out]
            have hl : ([[u8i m], []].take (k2 + 1) : List (List UInt8)).length = k2 + 1 := by rw [List.length_take]; simp; omega
            have hz : W2.heap.size + 1 = (W2.alloc (.cells #[.int .u8 (m % 256)] 5)).heap.size := by simp
            refine ⟨[Value.slice (some ⟨W2.heap.size, 0, none⟩) 1 1, .slice none 0 0].take (k2 + 1), ?_, fun i b hb => ?_⟩
            · rw [hl]
              have h0 := OwS.lit (W2.alloc (.cells #[.int .u8 (m % 256)] 5)) (X + 1) 24 1 2 #[.slice (some ⟨W2.heap.size, 0, none⟩) 1 1, .slice none 0 0] (by rw [← hz]; omega) (by decide) rfl
              rw [← hz] at h0
              have h1 := OwS.cutTo h0 (k2 + 1) (by omega)
              rw [Nat.mul_one] at h1
              exact h1
            · have hi : i < k2 + 1 := by have := (List.getElem?_eq_some_iff.1 hb).1; omega
              rw [List.getElem?_take_of_lt hi] at hb ⊢
              have h5 : OwB ((W2.alloc (.cells #[.int .u8 (m % 256)] 5)).alloc (.cells #[.slice (some ⟨W2.heap.size, 0, none⟩) 1 1, .slice none 0 0] 24)) (X + 1) 5 (.slice (some ⟨W2.heap.size, 0, none⟩) 1 1) [u8i m] := OwS.alloc (OwS.mono (owB_lit W2 1 #[.int .u8 (m % 256)] [u8i m] (by simp [u8v, u8i_val]) rfl) hX) _
              rcases i with _ | _ | i
              · simp at hb; subst hb
                exact ⟨_, rfl, h5, fun j hj e => by simp [Value.ownBlock] at hj e; omega⟩
              · simp at hb; subst hb
                exact ⟨_, rfl, OwS.nil _ _ _ _, fun j hj e => by simp [Value.ownBlock] at hj⟩
              · omega⟩
          have HBX : As (Below X wr ((W2.alloc (.cells #[.int .u8 (m % 256)] 5)).alloc (.cells #[.slice (some ⟨W2.heap.size, 0, none⟩) 1 1, .slice none 0 0] 24))) := ⟨HW2.out.1.trans (HB2.out.mono (Nat.le_of_lt HW2.out.2.lt))⟩
          clear h0
          go_wp2
          go_meet
          clear q35 f35 kc
          have gset := grown_set ((W2.alloc (.cells #[.int .u8 (m % 256)] 5)).alloc (.cells #[.slice (some ⟨W2.heap.size, 0, none⟩) 1 1, .slice none 0 0] 24)) X 35 (.slice (some ⟨W2.heap.size + 1, 0, none⟩) (k2 + 1) 2)
          refine ⟨_, HBX.out.setCell (Nat.le_refl _) _, ?_, OwW.read HWW.out gset (Nat.lt_succ_self X)⟩
          have hbs := Box.set HZ2.out 35 (.slice (some ⟨W2.heap.size + 1, 0, none⟩) (k2 + 1) 2)
          rw [List.set_append_right _ _ (by have := HPL.out; omega), HPL.out] at hbs
          exact hbs
        · have HE : As ((inOf m k).wit = []) := ⟨by show (if m / 2 ^ (12 + k) % 4 = 0 then _ else _) = _; rw [if_neg (by rw [← HE3.out]; exact h0)]⟩
          have h00 : (e3 == 0) = false := beq_eq_false_iff_ne.mpr h0
          clear h0
          go_wp2
          go_meet
          exact ⟨_, HW2.out.1, HW2.out.2, by rw [HE.out]; exact OwW.nil _ _⟩
      case rest =>
        obtain ⟨wv, HW3⟩ := hcut
        clear HW2 he3 hk2
        have HWC := HW3
        obtain ⟨e4, he4⟩ : ∃ e, bits .and .i64 (m / 262144) 3 = e := ⟨_, rfl⟩
        have HE4 : As (e4 = m / 262144 % 4) := ⟨by rw [← he4]; exact i64_mask _ 3 2 (by decide) (by decide)⟩
        go_upto_if 78 with fail
        obtain ⟨W3, hW3⟩ : ∃ W, W = wc := ⟨_, rfl⟩
        rw [← hW3] at HW3 ⊢
        clear hW3
        go_cut [] (fun wd => ∃ sv, As (Below X wr wd ∧ Box wd X (pc ++ [Value.int .u32 (VO : Int), sv, Value.int .u32 (4294967295 - sq), wv] : List Value).toArray 55 ∧ OwW wd (X + 1) wv (inOf m k).wit ∧ OwB wd (X + 1) 5 sv (inOf m k).script))
        case first =>
          by_cases h0 : e4 = 0
          · have HE : As ((inOf m k).script = [u8i (m / 16)]) := ⟨by show (if m / 262144 % 4 = 0 then _ else _) = _; rw [if_pos (by rw [← HE4.out]; exact h0)]⟩
            have h00 : (e4 == 0) = true := by rw [h0]; rfl
            have HZ := As.mk (Box.below HW3.out.2.1 (below_al W3 (.cells #[.int .u8 (m / 16 % 256)] 5)))
            have q33 := Box.cell HZ.out 33 (.slice none 0 0) (by rw [List.getElem?_toArray, List.getElem?_append_right (by have := HPL.out; omega), HPL.out]; rfl)
            have f33 := Box.frozen HZ.out 33
            clear h0
            go_wp2
            go_meet
            clear q33 f33
            have hX : X < W3.heap.size := HW3.out.2.1.lt
            have gset := grown_set (W3.alloc (.cells #[.int .u8 (m / 16 % 256)] 5)) X 33 (.slice (some ⟨W3.heap.size, 0, none⟩) 1 1)
            have h5 : OwB (W3.alloc (.cells #[.int .u8 (m / 16 % 256)] 5)) (X + 1) 5 (.slice (some ⟨W3.heap.size, 0, none⟩) 1 1) [u8i (m / 16)] := OwS.mono (owB_lit W3 1 #[.int .u8 (m / 16 % 256)] [u8i (m / 16)] (by simp [u8v, u8i_val]) rfl) hX
            refine ⟨_, (HW3.out.1.trans ((below_al W3 _).mono (Nat.le_of_lt hX))).setCell (Nat.le_refl _) _, ?_, OwW.read (OwW.alloc HW3.out.2.2 _) gset (Nat.lt_succ_self X), by rw [HE.out]; exact h5.kept gset (off_kept (off_low h5 (Nat.lt_succ_self X)))⟩
            have hbs := Box.set HZ.out 33 (.slice (some ⟨W3.heap.size, 0, none⟩) 1 1)
            rw [List.set_append_right _ _ (by have := HPL.out; omega), HPL.out] at hbs
            exact hbs
          · have HE : As ((inOf m k).script = []) := ⟨by show (if m / 262144 % 4 = 0 then _ else _) = _; rw [if_neg (by rw [← HE4.out]; exact h0)]⟩
            have h00 : (e4 == 0) = false := beq_eq_false_iff_ne.mpr h0
            clear h0
            go_wp2
            go_meet
            exact ⟨_, HW3.out.1, HW3.out.2.1, HW3.out.2.2, by rw [HE.out]; exact OwS.nil _ _ _ _⟩
        case rest =>
          obtain ⟨sv, HW4⟩ := hcut
          clear HW3 he4 HWC
          obtain ⟨As_, cs_, rfl⟩ := RdB.formN HW4.out.2.2.2.rd rfl
          obtain ⟨Aw, cw, rfl⟩ := OwW.form HW4.out.2.2.1
          obtain ⟨AI, cI, hiv⟩ := OwG.form HT.out.2.2.2.2
          rw [List.length_map, List.length_range] at hiv
          subst hiv
          have HTd := As.mk (TI.below HT.out (by have h := HW4.out.1; rw [HX.out] at h; exact h))
          obtain ⟨e36, he36⟩ : ∃ c, c = (pc ++ [Value.int .u32 (VO : Int), .slice As_ (inOf m k).script.length cs_, Value.int .u32 (4294967295 - sq), .slice Aw (inOf m k).wit.length cw] : List Value) := ⟨_, rfl⟩
          have HE36 := As.mk he36
          have HEL : As (e36.length = 36) := ⟨by rw [he36, List.length_append, HPL.out]; rfl⟩
          have HE1 : As (∀ v ∈ e36, v.oneCell' = true) := ⟨by
            intro v hv
            rw [he36, HPC.out] at hv
            rcases List.mem_append.1 hv with hv | hv
            · exact u8v_one _ v hv
            · simp at hv; rcases hv with rfl | rfl | rfl | rfl <;> rfl⟩
          have HRG : As (wc.rangeAt X 0 e36) := ⟨by rw [he36]; exact range_of_block HW4.out.2.1⟩
          have HBZ := As.mk (below_al wc (.cells e36.toArray 55))
          have HTe := As.mk (HTd.out.below HBZ.out)
          have HBN := As.mk (Box.new wc e36.toArray 55)
          have HXd : As (X < wc.heap.size ∧ G < X ∧ ∀ j, (Value.slice AI k cI).ownBlock = some j → j < X) := ⟨HW4.out.2.1.lt, by have := HT.out.lt; have := HX.out; omega, fun j hj => by have := (OwG.lt HT.out.2.2.2.2 j hj).2; have := HX.out; omega⟩
          have HEN : As (InE (G + 1) (wc.alloc (.cells e36.toArray 55)) (Value.slice AI k cI).ownBlock e36 (inOf m k)) := ⟨⟨_, _, (by rw [HE36.out, HPC.out, HVO.out, HSQ.out]), prev_in m k, ⟨OwS.alloc (OwS.mono HW4.out.2.2.2 (by have := HXd.out.2.1; omega)) _, fun j hj e => (by have q1 := HW4.out.2.2.2.lt j hj; have q2 := HXd.out.2.2 j e; omega)⟩, OwV.of (OwW.alloc HW4.out.2.2.1 _) (by have := HXd.out.2.1; omega) (fun j e => by have := HXd.out.2.2 j e; omega), (by rw [HVO.out]; omega), (by have := HSQ.out; omega)⟩⟩
          have q1 := HTd.out.cells.1
          obtain ⟨it, hit⟩ := Option.map_eq_some_iff.1 info55
          have HIT := As.mk hit
          clear hit he36
          go_wp2_with (first | ((with_reducible refine wpList_load_mid (op := ⟨_, .load 55 (.tmp 7), _, _, _, _⟩) ?hgd 55 (.tmp 7) rfl _ _ ?hx e36 _ HRG.out Try.underlying55 rfl ?hi ?_); (case hgd => exact rfl); (case hx => exact rfl); (case hi => rw [HEL.out]; kernel_rfl)) | ((with_reducible refine wpList_buildSlice (o := ⟨_, .buildSlice 48 1 #[(0, .tmp 86)], _, _, _, _⟩) ?hgd 48 55 1 _ rfl e36.toArray it (.agg (Z32 ++ [Value.int .u32 0, Value.slice none 0 0, Value.int .u32 0, Value.slice none 0 0]).toArray) Try.underlying48 HIT.out.1 ?hz ?hsm ?hpo ?hf ?_); (case hgd => exact rfl); (case hz => have h := HIT.out.2; simp only [Prod.mk.injEq] at h; exact h.1); (case hsm => have h := HIT.out.2; simp only [Prod.mk.injEq] at h; rw [h.2.1]; decide); (case hpo => have h := HIT.out.2; simp only [Prod.mk.injEq] at h; rw [h.2.1]; decide); (case hf => have h := HIT.out.2; simp only [Prod.mk.injEq] at h; rw [h.2.1]; simp only [List.map_toArray, List.map_cons, List.map_nil]; exact fill55 _ (by simp) e36 HEL.out)) | (at_builtin; refine wpList_appG (E := InE (G + 1)) (G + 1) rfl (.tmp 85) (.tmp 87) 48 55 ZIn 36 96 rfl Try.underlying48 info55z zin_size (by decide) (by decide) (.slice AI k cI) rfl wc.heap.size rfl e36 HBN.out HEL.out HE1.out ((List.range k).map (inOf m)) (inOf m k) HTe.out.2.2.2.2 HEN.out (fun v' w' hg ht => InE.grow hg ht) (by rw [List.length_map, List.length_range]; omega) HTe.out.lt ?_; intro v4 w4 ho hg ht; obtain ⟨A4, c4, h4⟩ := OwG.form ho; rw [List.length_append, List.length_map, List.length_range, List.length_singleton] at h4; subst h4; have HO4 := As.mk ho; have HG4 := As.mk hg; have HB4 := As.mk (Box.grown HTe.out.2.2.1 hg (fun e => by have := (OwG.lt HTe.out.2.2.2.2 G e).1; omega)); have r1 := Box.cell HB4.out 1 _ rfl; have r2 := Box.frozen HB4.out 1; clear ho hg ht))
          have hT5 : TI w (w4.setCell ⟨G, 1, none⟩ (.slice A4 (k + 1) c4)) G (V + 1) L (.slice A4 (k + 1) c4) ((List.range (k + 1)).map (inOf m)) := by
            have gset := grown_set w4 G 1 (.slice A4 (k + 1) c4)
            have hgw := HG1.out
            have hlo := fun j hj => (OwG.lt HTe.out.2.2.2.2 j hj).1
            refine ⟨(HTe.out.1.grown HG4.out HTe.out.1.size (fun j hj => by have := hlo j hj; omega)).setCell (show w.heap.size ≤ G by omega) _, Box.grown (Box.grown HTe.out.2.1 HG4.out (fun e => by have := hlo _ e; omega)) gset (fun e => by injection e with e; omega), Box.set HB4.out 1 _, HG1.out, ?_⟩
            rw [List.range_succ, List.map_append]
            exact OwG.read (l := []) (bad := false) (InE.read (Nat.lt_succ_self G) gset) HO4.out gset (Nat.lt_succ_self G)
          have HT5 := As.mk hT5
          clear hT5 r1 r2 q1
          go_roundw
          case rel =>
            refine ⟨k + 1, .slice A4 (k + 1) c4, ?_, ?_, ?_⟩
            · go_num
            · omega
            · exact HT5
          case measure => simp [intOf]; omega
    · -- TAIL
      have hkn : k = NI + 1 := by omega
      have HXS : As ((List.range k).map (inOf m) = (txOf n m).ins) := ⟨by rw [HNI.out, hkn]⟩
      obtain ⟨mid, hmid⟩ : ∃ d, d = wr.heap.size := ⟨_, rfl⟩
      obtain ⟨wr0, hwr0⟩ : ∃ W, W = wr := ⟨_, rfl⟩
      have HT0 : As (TI w wr0 G (V + 1) L iv (txOf n m).ins) := ⟨by rw [hwr0, ← HXS.out]; exact HT.out⟩
      have HO0 : As (TO wr0 wr G (V + 1) L iv (.slice none 0 0) mid []) := ⟨by
        rw [hwr0]
        exact ⟨World.grownBy.refl wr _, HT.out.2.2.1, OwG.nil, by rw [hmid]; exact HT.out.lt, hmid⟩⟩
      clear hmid HT hkn hwr0
      go_wp2
      go_loopw [8] (fun v8 w2 => ∃ (j : Nat) (ov : Value), v8 = .int .i64 (j : Int) ∧ (j : Int) ≤ NO + 1 ∧ As (TO wr0 w2 G (V + 1) L iv ov mid ((List.range j).map (outOf n m)))) (fun v8 _ => NO + 1 - (intOf v8).toNat)
      case atStart => exact ⟨0, _, rfl, by omega, HO0⟩
      case round =>
        obtain ⟨j, ov, rfl, hj, HTk⟩ := hrel
        by_cases hlt : (j : Int) < NO + 1
        · have hj3 : (j : Int) ≤ 3 := by omega
          obtain ⟨AO, cO, hov⟩ := OwG.form HTk.out.2.2.1
          rw [List.length_map, List.length_range] at hov
          subst hov
          obtain ⟨mj, hmj⟩ : ∃ x : Int, m / 2 ^ min (IntKind.u64.wrap (j : Int)).toNat 64 = x := ⟨_, rfl⟩
          have HMJ : As (mj = m / 2 ^ j) := ⟨by
            rw [← hmj, IntWalk.u64_in _ (by omega)]
            congr 2
            omega⟩
          obtain ⟨vo, hvo, hvo2, HVOv⟩ : ∃ N : Nat, IntKind.u64.wrap (bits .and .i64 (n / 2 ^ min (IntKind.u64.wrap (IntKind.i64.wrap (12 + (j : Int)))).toNat 64) 4095) = (N : Int) ∧ (N : Int) ≤ 4095 ∧ As (N = (outOf n m j).value) := by
            rw [i64_mask _ 4095 12 (by decide) (by decide), IntWalk.i64_in _ (by omega), IntWalk.u64_in (12 + (j : Int)) (by omega), show min (12 + (j : Int)).toNat 64 = 12 + j by omega]
            refine ⟨(outOf n m j).value, ?_, ?_, ⟨rfl⟩⟩
            · show _ = ((n / 2 ^ (12 + j) % 4096).toNat : Int)
              rw [IntWalk.u64_in _ (by omega)]
              omega
            · show ((n / 2 ^ (12 + j) % 4096).toNat : Int) ≤ 4095
              omega
          have HMS : As (mid ≤ wr.drew.heap.size) := ⟨HTk.out.size⟩
          have q1 := (TO.below HTk.out (below_dr wr)).cells
          go_upto_region 15 with fail
          refine wp_region_any (by kernel_rfl) ?_
          try (change wpAny _ _ _ _ _ _ _ (World.drew _))
          refine wpAny_take (i := 0) (oi := ?_) (v := ?_) (by simp only [List.getElem?_toArray, List.getElem?_cons_zero, List.getElem?_cons_succ]; rfl) (by kernel_rfl) (by kernel_rfl) (by kernel_rfl) (by exact fun _ _ _ h => h) (Or.inl ⟨by rfl, ?_⟩) ?_
          rotate_left
          · (intro w; go_simp; first | done | with_reducible rfl)
          try simp only [Act.put, List.setIfInBounds_toArray, List.set_cons_zero, List.set_cons_succ]
          refine wpAny_take (i := 2) (oi := ?_) (v := ?_) (by simp only [List.getElem?_toArray, List.getElem?_cons_zero, List.getElem?_cons_succ]; rfl) (by kernel_rfl) (by kernel_rfl) (by kernel_rfl) (by exact fun _ _ _ h => h) (Or.inl ⟨by rfl, ?_⟩) ?_
          rotate_left
          · (intro w; go_simp; first | done | with_reducible rfl)
          try simp only [Act.put, List.setIfInBounds_toArray, List.set_cons_zero, List.set_cons_succ]
          refine wpAny_take (i := 3) (oi := ?_) (v := ?_) (by simp only [List.getElem?_toArray, List.getElem?_cons_zero, List.getElem?_cons_succ]; rfl) (by kernel_rfl) (by kernel_rfl) (by kernel_rfl) (by exact fun _ _ _ h => h) (Or.inl ⟨by rfl, ?_⟩) ?_
          rotate_left
          · (intro w; go_simp; first | done | with_reducible rfl)
          try simp only [Act.put, List.setIfInBounds_toArray, List.set_cons_zero, List.set_cons_succ]
          refine wpAny_take (i := 4) (oi := ?_) (v := ?_) (by simp only [List.getElem?_toArray, List.getElem?_cons_zero, List.getElem?_cons_succ]; rfl) (by kernel_rfl) (by kernel_rfl) (by kernel_rfl) (by exact fun _ _ _ h => h) (Or.inl ⟨by rfl, ?_⟩) ?_
          rotate_left
          · (intro w; go_simp; first | done | with_reducible rfl)
          try simp only [Act.put, List.setIfInBounds_toArray, List.set_cons_zero, List.set_cons_succ]
          refine wpAny_take (i := 5) (oi := ?_) (v := ?_) (by simp only [List.getElem?_toArray, List.getElem?_cons_zero, List.getElem?_cons_succ]; rfl) (by kernel_rfl) (by kernel_rfl) (by kernel_rfl) (by exact fun _ _ _ h => h) (Or.inl ⟨by rfl, ?_⟩) ?_
          rotate_left
          · (intro w; go_simp; first | done | with_reducible rfl)
          try simp only [Act.put, List.setIfInBounds_toArray, List.set_cons_zero, List.set_cons_succ]
          refine wpAny_take (i := 6) (oi := ?_) (v := ?_) (by simp only [List.getElem?_toArray, List.getElem?_cons_zero, List.getElem?_cons_succ]; rfl) (by kernel_rfl) (by kernel_rfl) (by kernel_rfl) (by exact fun _ _ _ h => h) (Or.inl ⟨by rfl, ?_⟩) ?_
          rotate_left
          · (intro w; go_simp; first | done | with_reducible rfl)
          try simp only [Act.put, List.setIfInBounds_toArray, List.set_cons_zero, List.set_cons_succ]
          refine wpAny_take (i := 7) (oi := ?_) (v := ?_) (by simp only [List.getElem?_toArray, List.getElem?_cons_zero, List.getElem?_cons_succ]; rfl) (by kernel_rfl) (by kernel_rfl) (by kernel_rfl) (by exact fun _ _ _ h => h) (Or.inl ⟨by rfl, ?_⟩) ?_
          rotate_left
          · (intro w; go_simp; first | done | with_reducible rfl)
          try simp only [Act.put, List.setIfInBounds_toArray, List.set_cons_zero, List.set_cons_succ]
          refine wpAny_take (i := 8) (oi := ?_) (v := ?_) (by simp only [List.getElem?_toArray, List.getElem?_cons_zero, List.getElem?_cons_succ]; rfl) (by kernel_rfl) (by kernel_rfl) (by kernel_rfl) (by exact fun _ _ _ h => h) (Or.inl ⟨by rfl, ?_⟩) ?_
          rotate_left
          · (intro w; go_simp; first | done | with_reducible rfl)
          try simp only [Act.put, List.setIfInBounds_toArray, List.set_cons_zero, List.set_cons_succ]
          refine wpAny_take (i := 9) (oi := ?_) (v := ?_) (by simp only [List.getElem?_toArray, List.getElem?_cons_zero, List.getElem?_cons_succ]; rfl) (by kernel_rfl) (by kernel_rfl) (by kernel_rfl) (by exact fun _ _ _ h => h) (Or.inl ⟨by rfl, ?_⟩) ?_
          rotate_left
          · (intro w; go_simp; first | done | with_reducible rfl)
          try simp only [Act.put, List.setIfInBounds_toArray, List.set_cons_zero, List.set_cons_succ]
          refine wpAny_take (i := 10) (oi := ?_) (v := ?_) (by simp only [List.getElem?_toArray, List.getElem?_cons_zero, List.getElem?_cons_succ]; rfl) (by kernel_rfl) (by kernel_rfl) (by kernel_rfl) (by exact fun _ _ _ h => h) (Or.inl ⟨by rfl, ?_⟩) ?_
          rotate_left
          · (intro w; go_simp; first | done | with_reducible rfl)
          try simp only [Act.put, List.setIfInBounds_toArray, List.set_cons_zero, List.set_cons_succ]
          refine wpAny_take (i := 11) (oi := ?_) (v := ?_) (by simp only [List.getElem?_toArray, List.getElem?_cons_zero, List.getElem?_cons_succ]; rfl) (by kernel_rfl) (by kernel_rfl) (by kernel_rfl) (by exact fun _ _ _ h => h) (Or.inl ⟨by rfl, ?_⟩) ?_
          rotate_left
          · (intro w; go_simp; first | done | with_reducible rfl)
          try simp only [Act.put, List.setIfInBounds_toArray, List.set_cons_zero, List.set_cons_succ]
          refine wpAny_take (i := 12) (oi := ?_) (v := ?_) (by simp only [List.getElem?_toArray, List.getElem?_cons_zero, List.getElem?_cons_succ]; rfl) (by kernel_rfl) (by kernel_rfl) (by kernel_rfl) (by exact fun _ _ _ h => h) (Or.inl ⟨by rfl, ?_⟩) ?_
          rotate_left
          · (intro w; go_simp; first | done | with_reducible rfl)
          try simp only [Act.put, List.setIfInBounds_toArray, List.set_cons_zero, List.set_cons_succ]
          refine wpAny_ready (rs := [1, 13]) (by kernel_rfl) (by simp) ?_
          refine AllReady.cons (o := ?_) (by simp only [List.getElem?_toArray, List.getElem?_cons_zero, List.getElem?_cons_succ]; rfl) (fun K hK => ?_) ?_
          · go_simp
            refine hK _ _ ?_
            clear hK K
            try simp only [Act.put, List.setIfInBounds_toArray, List.set_cons_zero, List.set_cons_succ]
            refine wpAny_ready (rs := [13]) (by kernel_rfl) (by simp) ?_
            refine AllReady.cons (o := ?_) (by simp only [List.getElem?_toArray, List.getElem?_cons_zero, List.getElem?_cons_succ]; rfl) (fun K hK => ?_) ?_
            · go_simp
              refine (script_any mj _).mono ?_
              rintro e w3 ⟨sv, rfl, ho, hb⟩
              obtain ⟨As3, cs3, rfl⟩ := RdB.formN ho.rd rfl
              have HS3 := As.mk ho
              have HT3 := As.mk (TO.below HTk.out ((below_dr wr).trans hb))
              have HB3 := As.mk hb.size
              have q1 := HT3.out.cells
              clear ho hb
              dsimp only
              refine hK _ _ ?_
              clear hK K
              try simp only [Act.put, List.setIfInBounds_toArray, List.set_cons_zero, List.set_cons_succ]
              refine wpAny_take (i := 14) (oi := ?_) (v := ?_) (by simp only [List.getElem?_toArray, List.getElem?_cons_zero, List.getElem?_cons_succ]; rfl) (by kernel_rfl) (by kernel_rfl) (by kernel_rfl) (by exact fun _ _ _ h => h) (Or.inl ⟨by rfl, ?_⟩) ?_
              rotate_left
              · (intro w; go_simp; first | done | with_reducible rfl)
              try simp only [Act.put, List.setIfInBounds_toArray, List.set_cons_zero, List.set_cons_succ]
              refine wpAny_ready (rs := [15]) (by kernel_rfl) (by simp) ?_
              refine AllReady.cons (o := ?_) (by simp only [List.getElem?_toArray, List.getElem?_cons_zero, List.getElem?_cons_succ]; rfl) (fun K hK => ?_) ?_
              · go_simp
                have HBX := As.mk (Box.new w3 #[.int .u64 (vo : Int), .slice As3 (scriptB mj).length cs3] 57)
                have HT4 := As.mk (HT3.out.below (below_al w3 (.cells #[.int .u64 (vo : Int), .slice As3 (scriptB mj).length cs3] 57)))
                have HEN : As (OutE mid (w3.alloc (.cells #[.int .u64 (vo : Int), .slice As3 (scriptB mj).length cs3] 57)) (Value.slice AO j cO).ownBlock [.int .u64 (vo : Int), .slice As3 (scriptB mj).length cs3] (outOf n m j)) := ⟨⟨_, by rw [HVOv.out]; exact ⟨rfl, ⟨by rw [show (outOf n m j).script = scriptB mj by rw [HMJ.out]; rfl]; exact OwC.below (OwC.mono HS3.out HMS.out) (below_al _ _), fun d hd e => by have q1 := (OwC.lt HS3.out d hd).1; have q2 := (OwG.lt HTk.out.2.2.1 d e).2; simp at q1; omega⟩, by rw [← HVOv.out]; omega⟩⟩⟩
                have q1 := HT4.out.cells
                refine hK _ _ ?_
                clear hK K
                try simp only [Act.put, List.setIfInBounds_toArray, List.set_cons_zero, List.set_cons_succ]
                refine wpAny_ready (rs := [16]) (by kernel_rfl) (by simp) ?_
                refine AllReady.cons (o := ?_) (by simp only [List.getElem?_toArray, List.getElem?_cons_zero, List.getElem?_cons_succ]; rfl) (fun K hK => ?_) ?_
                · refine step_appG (E := OutE mid) mid ?hgd (.tmp 99) (.tmp 113) 49 57 (.agg #[.int .u64 0, .slice none 0 0]) 2 32 ?ho Try.underlying49 info57 rfl (by decide) (by decide) (.slice AO j cO) ?hs w3.heap.size ?hx [.int .u64 (vo : Int), .slice As3 (scriptB mj).length cs3] HBX.out rfl (by simp; exact ⟨rfl, rfl⟩) ((List.range j).map (outOf n m)) (outOf n m j) HT4.out.2.2.1 HEN.out (fun v' w' hg ht => OutE.grow hg ht) ?hl ?hb ?_
                  case hgd => rfl
                  case ho => rfl
                  case hs => rfl
                  case hx => rfl
                  case hl => rw [List.length_map, List.length_range]; omega
                  case hb => exact HT4.out.size
                  intro v4 w4 ho hg ht
                  obtain ⟨A4, c4, h4⟩ := OwG.form ho
                  rw [List.length_append, List.length_map, List.length_range, List.length_singleton] at h4
                  subst h4
                  have HO4 := As.mk ho
                  have HG4 := As.mk hg
                  have HB4 := As.mk (Box.grown HT4.out.2.1 hg (fun e => by have := (OwG.lt HT4.out.2.2.1 G e).1; have := HT4.out.2.2.2.1; omega))
                  have q1 := And.intro (Box.cell HB4.out 2 _ rfl) (Box.frozen HB4.out 2)
                  clear ho hg ht
                  refine hK _ _ ?_
                  clear hK K
                  try simp only [Act.put, List.setIfInBounds_toArray, List.set_cons_zero, List.set_cons_succ]
                  refine wpAny_take (i := 17) (oi := ?_) (v := ?_) (by simp only [List.getElem?_toArray, List.getElem?_cons_zero, List.getElem?_cons_succ]; rfl) (by kernel_rfl) (by kernel_rfl) (by kernel_rfl) (by exact fun _ _ _ h => h) (Or.inl ⟨by rfl, ?_⟩) ?_
                  rotate_left
                  · (intro w; go_simp; first | done | with_reducible rfl)
                  try simp only [Act.put, List.setIfInBounds_toArray, List.set_cons_zero, List.set_cons_succ]
                  refine wpAny_ready (rs := [18]) (by kernel_rfl) (by simp) ?_
                  refine AllReady.cons (o := ?_) (by simp only [List.getElem?_toArray, List.getElem?_cons_zero, List.getElem?_cons_succ]; rfl) (fun K hK => ?_) ?_
                  · go_simp
                    have hq := True.intro
                    refine hK _ _ ?_
                    clear hK K
                    try simp only [Act.put, List.setIfInBounds_toArray, List.set_cons_zero, List.set_cons_succ]
                    refine wpAny_done (by kernel_rfl) ?_ _
                    clear q1
                    have hT5 : TO wr0 (w4.setCell ⟨G, 2, none⟩ (.slice A4 (j + 1) c4)) G (V + 1) L iv (.slice A4 (j + 1) c4) mid ((List.range (j + 1)).map (outOf n m)) := by
                      have gset := grown_set w4 G 2 (.slice A4 (j + 1) c4)
                      have hmid := HT4.out.2.2.2
                      have hlo := fun d hd => (OwG.lt HT4.out.2.2.1 d hd).1
                      refine ⟨grown_trans (grown_far HT4.out.1 HG4.out (fun d hd => by have := hlo d hd; omega)) gset, Box.set (cs := [_, _, _, _]) HB4.out 2 _, ?_, hmid⟩
                      rw [List.range_succ, List.map_append]
                      exact OwG.read (l := []) (bad := false) (OutE.read (by omega) gset) HO4.out gset (by omega)
                    have HT5 := As.mk hT5
                    clear hT5
                    go_wp2
                    go_roundw
                    case rel =>
                      refine ⟨j + 1, .slice A4 (j + 1) c4, ?_, ?_, ?_⟩
                      · go_num
                      · omega
                      · exact HT5
                    case measure => simp [intOf]; omega
                  exact AllReady.nil
                exact AllReady.nil
              exact AllReady.nil
            exact AllReady.nil
          refine AllReady.cons (o := ?_) (by simp only [List.getElem?_toArray, List.getElem?_cons_zero, List.getElem?_cons_succ]; rfl) (fun K hK => ?_) ?_
          · go_simp
            refine (script_any mj _).mono ?_
            rintro e w3 ⟨sv, rfl, ho, hb⟩
            obtain ⟨As3, cs3, rfl⟩ := RdB.formN ho.rd rfl
            have HS3 := As.mk ho
            have HT3 := As.mk (TO.below HTk.out ((below_dr wr).trans hb))
            have HB3 := As.mk hb.size
            have q1 := HT3.out.cells
            clear ho hb
            dsimp only
            refine hK _ _ ?_
            clear hK K
            try simp only [Act.put, List.setIfInBounds_toArray, List.set_cons_zero, List.set_cons_succ]
            refine wpAny_take (i := 14) (oi := ?_) (v := ?_) (by simp only [List.getElem?_toArray, List.getElem?_cons_zero, List.getElem?_cons_succ]; rfl) (by kernel_rfl) (by kernel_rfl) (by kernel_rfl) (by exact fun _ _ _ h => h) (Or.inl ⟨by rfl, ?_⟩) ?_
            rotate_left
            · (intro w; go_simp; first | done | with_reducible rfl)
            try simp only [Act.put, List.setIfInBounds_toArray, List.set_cons_zero, List.set_cons_succ]
            refine wpAny_ready (rs := [1, 15]) (by kernel_rfl) (by simp) ?_
            refine AllReady.cons (o := ?_) (by simp only [List.getElem?_toArray, List.getElem?_cons_zero, List.getElem?_cons_succ]; rfl) (fun K hK => ?_) ?_
            · go_simp
              refine hK _ _ ?_
              clear hK K
              try simp only [Act.put, List.setIfInBounds_toArray, List.set_cons_zero, List.set_cons_succ]
              refine wpAny_ready (rs := [15]) (by kernel_rfl) (by simp) ?_
              refine AllReady.cons (o := ?_) (by simp only [List.getElem?_toArray, List.getElem?_cons_zero, List.getElem?_cons_succ]; rfl) (fun K hK => ?_) ?_
              · go_simp
                have HBX := As.mk (Box.new w3 #[.int .u64 (vo : Int), .slice As3 (scriptB mj).length cs3] 57)
                have HT4 := As.mk (HT3.out.below (below_al w3 (.cells #[.int .u64 (vo : Int), .slice As3 (scriptB mj).length cs3] 57)))
                have HEN : As (OutE mid (w3.alloc (.cells #[.int .u64 (vo : Int), .slice As3 (scriptB mj).length cs3] 57)) (Value.slice AO j cO).ownBlock [.int .u64 (vo : Int), .slice As3 (scriptB mj).length cs3] (outOf n m j)) := ⟨⟨_, by rw [HVOv.out]; exact ⟨rfl, ⟨by rw [show (outOf n m j).script = scriptB mj by rw [HMJ.out]; rfl]; exact OwC.below (OwC.mono HS3.out HMS.out) (below_al _ _), fun d hd e => by have q1 := (OwC.lt HS3.out d hd).1; have q2 := (OwG.lt HTk.out.2.2.1 d e).2; simp at q1; omega⟩, by rw [← HVOv.out]; omega⟩⟩⟩
                have q1 := HT4.out.cells
                refine hK _ _ ?_
                clear hK K
                try simp only [Act.put, List.setIfInBounds_toArray, List.set_cons_zero, List.set_cons_succ]
                refine wpAny_ready (rs := [16]) (by kernel_rfl) (by simp) ?_
                refine AllReady.cons (o := ?_) (by simp only [List.getElem?_toArray, List.getElem?_cons_zero, List.getElem?_cons_succ]; rfl) (fun K hK => ?_) ?_
                · refine step_appG (E := OutE mid) mid ?hgd (.tmp 99) (.tmp 113) 49 57 (.agg #[.int .u64 0, .slice none 0 0]) 2 32 ?ho Try.underlying49 info57 rfl (by decide) (by decide) (.slice AO j cO) ?hs w3.heap.size ?hx [.int .u64 (vo : Int), .slice As3 (scriptB mj).length cs3] HBX.out rfl (by simp; exact ⟨rfl, rfl⟩) ((List.range j).map (outOf n m)) (outOf n m j) HT4.out.2.2.1 HEN.out (fun v' w' hg ht => OutE.grow hg ht) ?hl ?hb ?_
                  case hgd => rfl
                  case ho => rfl
                  case hs => rfl
                  case hx => rfl
                  case hl => rw [List.length_map, List.length_range]; omega
                  case hb => exact HT4.out.size
                  intro v4 w4 ho hg ht
                  obtain ⟨A4, c4, h4⟩ := OwG.form ho
                  rw [List.length_append, List.length_map, List.length_range, List.length_singleton] at h4
                  subst h4
                  have HO4 := As.mk ho
                  have HG4 := As.mk hg
                  have HB4 := As.mk (Box.grown HT4.out.2.1 hg (fun e => by have := (OwG.lt HT4.out.2.2.1 G e).1; have := HT4.out.2.2.2.1; omega))
                  have q1 := And.intro (Box.cell HB4.out 2 _ rfl) (Box.frozen HB4.out 2)
                  clear ho hg ht
                  refine hK _ _ ?_
                  clear hK K
                  try simp only [Act.put, List.setIfInBounds_toArray, List.set_cons_zero, List.set_cons_succ]
                  refine wpAny_take (i := 17) (oi := ?_) (v := ?_) (by simp only [List.getElem?_toArray, List.getElem?_cons_zero, List.getElem?_cons_succ]; rfl) (by kernel_rfl) (by kernel_rfl) (by kernel_rfl) (by exact fun _ _ _ h => h) (Or.inl ⟨by rfl, ?_⟩) ?_
                  rotate_left
                  · (intro w; go_simp; first | done | with_reducible rfl)
                  try simp only [Act.put, List.setIfInBounds_toArray, List.set_cons_zero, List.set_cons_succ]
                  refine wpAny_ready (rs := [18]) (by kernel_rfl) (by simp) ?_
                  refine AllReady.cons (o := ?_) (by simp only [List.getElem?_toArray, List.getElem?_cons_zero, List.getElem?_cons_succ]; rfl) (fun K hK => ?_) ?_
                  · go_simp
                    have hq := True.intro
                    refine hK _ _ ?_
                    clear hK K
                    try simp only [Act.put, List.setIfInBounds_toArray, List.set_cons_zero, List.set_cons_succ]
                    refine wpAny_done (by kernel_rfl) ?_ _
                    clear q1
                    have hT5 : TO wr0 (w4.setCell ⟨G, 2, none⟩ (.slice A4 (j + 1) c4)) G (V + 1) L iv (.slice A4 (j + 1) c4) mid ((List.range (j + 1)).map (outOf n m)) := by
                      have gset := grown_set w4 G 2 (.slice A4 (j + 1) c4)
                      have hmid := HT4.out.2.2.2
                      have hlo := fun d hd => (OwG.lt HT4.out.2.2.1 d hd).1
                      refine ⟨grown_trans (grown_far HT4.out.1 HG4.out (fun d hd => by have := hlo d hd; omega)) gset, Box.set (cs := [_, _, _, _]) HB4.out 2 _, ?_, hmid⟩
                      rw [List.range_succ, List.map_append]
                      exact OwG.read (l := []) (bad := false) (OutE.read (by omega) gset) HO4.out gset (by omega)
                    have HT5 := As.mk hT5
                    clear hT5
                    go_wp2
                    go_roundw
                    case rel =>
                      refine ⟨j + 1, .slice A4 (j + 1) c4, ?_, ?_, ?_⟩
                      · go_num
                      · omega
                      · exact HT5
                    case measure => simp [intOf]; omega
                  exact AllReady.nil
                exact AllReady.nil
              exact AllReady.nil
            refine AllReady.cons (o := ?_) (by simp only [List.getElem?_toArray, List.getElem?_cons_zero, List.getElem?_cons_succ]; rfl) (fun K hK => ?_) ?_
            · go_simp
              have HBX := As.mk (Box.new w3 #[.int .u64 (vo : Int), .slice As3 (scriptB mj).length cs3] 57)
              have HT4 := As.mk (HT3.out.below (below_al w3 (.cells #[.int .u64 (vo : Int), .slice As3 (scriptB mj).length cs3] 57)))
              have HEN : As (OutE mid (w3.alloc (.cells #[.int .u64 (vo : Int), .slice As3 (scriptB mj).length cs3] 57)) (Value.slice AO j cO).ownBlock [.int .u64 (vo : Int), .slice As3 (scriptB mj).length cs3] (outOf n m j)) := ⟨⟨_, by rw [HVOv.out]; exact ⟨rfl, ⟨by rw [show (outOf n m j).script = scriptB mj by rw [HMJ.out]; rfl]; exact OwC.below (OwC.mono HS3.out HMS.out) (below_al _ _), fun d hd e => by have q1 := (OwC.lt HS3.out d hd).1; have q2 := (OwG.lt HTk.out.2.2.1 d e).2; simp at q1; omega⟩, by rw [← HVOv.out]; omega⟩⟩⟩
              have q1 := HT4.out.cells
              refine hK _ _ ?_
              clear hK K
              try simp only [Act.put, List.setIfInBounds_toArray, List.set_cons_zero, List.set_cons_succ]
              refine wpAny_ready (rs := [1]) (by kernel_rfl) (by simp) ?_
              refine AllReady.cons (o := ?_) (by simp only [List.getElem?_toArray, List.getElem?_cons_zero, List.getElem?_cons_succ]; rfl) (fun K hK => ?_) ?_
              · go_simp
                refine hK _ _ ?_
                clear hK K
                try simp only [Act.put, List.setIfInBounds_toArray, List.set_cons_zero, List.set_cons_succ]
                refine wpAny_ready (rs := [16]) (by kernel_rfl) (by simp) ?_
                refine AllReady.cons (o := ?_) (by simp only [List.getElem?_toArray, List.getElem?_cons_zero, List.getElem?_cons_succ]; rfl) (fun K hK => ?_) ?_
                · refine step_appG (E := OutE mid) mid ?hgd (.tmp 99) (.tmp 113) 49 57 (.agg #[.int .u64 0, .slice none 0 0]) 2 32 ?ho Try.underlying49 info57 rfl (by decide) (by decide) (.slice AO j cO) ?hs w3.heap.size ?hx [.int .u64 (vo : Int), .slice As3 (scriptB mj).length cs3] HBX.out rfl (by simp; exact ⟨rfl, rfl⟩) ((List.range j).map (outOf n m)) (outOf n m j) HT4.out.2.2.1 HEN.out (fun v' w' hg ht => OutE.grow hg ht) ?hl ?hb ?_
                  case hgd => rfl
                  case ho => rfl
                  case hs => rfl
                  case hx => rfl
                  case hl => rw [List.length_map, List.length_range]; omega
                  case hb => exact HT4.out.size
                  intro v4 w4 ho hg ht
                  obtain ⟨A4, c4, h4⟩ := OwG.form ho
                  rw [List.length_append, List.length_map, List.length_range, List.length_singleton] at h4
                  subst h4
                  have HO4 := As.mk ho
                  have HG4 := As.mk hg
                  have HB4 := As.mk (Box.grown HT4.out.2.1 hg (fun e => by have := (OwG.lt HT4.out.2.2.1 G e).1; have := HT4.out.2.2.2.1; omega))
                  have q1 := And.intro (Box.cell HB4.out 2 _ rfl) (Box.frozen HB4.out 2)
                  clear ho hg ht
                  refine hK _ _ ?_
                  clear hK K
                  try simp only [Act.put, List.setIfInBounds_toArray, List.set_cons_zero, List.set_cons_succ]
                  refine wpAny_take (i := 17) (oi := ?_) (v := ?_) (by simp only [List.getElem?_toArray, List.getElem?_cons_zero, List.getElem?_cons_succ]; rfl) (by kernel_rfl) (by kernel_rfl) (by kernel_rfl) (by exact fun _ _ _ h => h) (Or.inl ⟨by rfl, ?_⟩) ?_
                  rotate_left
                  · (intro w; go_simp; first | done | with_reducible rfl)
                  try simp only [Act.put, List.setIfInBounds_toArray, List.set_cons_zero, List.set_cons_succ]
                  refine wpAny_ready (rs := [18]) (by kernel_rfl) (by simp) ?_
                  refine AllReady.cons (o := ?_) (by simp only [List.getElem?_toArray, List.getElem?_cons_zero, List.getElem?_cons_succ]; rfl) (fun K hK => ?_) ?_
                  · go_simp
                    have hq := True.intro
                    refine hK _ _ ?_
                    clear hK K
                    try simp only [Act.put, List.setIfInBounds_toArray, List.set_cons_zero, List.set_cons_succ]
                    refine wpAny_done (by kernel_rfl) ?_ _
                    clear q1
                    have hT5 : TO wr0 (w4.setCell ⟨G, 2, none⟩ (.slice A4 (j + 1) c4)) G (V + 1) L iv (.slice A4 (j + 1) c4) mid ((List.range (j + 1)).map (outOf n m)) := by
                      have gset := grown_set w4 G 2 (.slice A4 (j + 1) c4)
                      have hmid := HT4.out.2.2.2
                      have hlo := fun d hd => (OwG.lt HT4.out.2.2.1 d hd).1
                      refine ⟨grown_trans (grown_far HT4.out.1 HG4.out (fun d hd => by have := hlo d hd; omega)) gset, Box.set (cs := [_, _, _, _]) HB4.out 2 _, ?_, hmid⟩
                      rw [List.range_succ, List.map_append]
                      exact OwG.read (l := []) (bad := false) (OutE.read (by omega) gset) HO4.out gset (by omega)
                    have HT5 := As.mk hT5
                    clear hT5
                    go_wp2
                    go_roundw
                    case rel =>
                      refine ⟨j + 1, .slice A4 (j + 1) c4, ?_, ?_, ?_⟩
                      · go_num
                      · omega
                      · exact HT5
                    case measure => simp [intOf]; omega
                  exact AllReady.nil
                exact AllReady.nil
              exact AllReady.nil
            exact AllReady.nil
          exact AllReady.nil

        · have hjn : j = NO + 1 := by omega
          have HYS : As ((List.range j).map (outOf n m) = (txOf n m).outs) := ⟨by rw [HNO.out, hjn]⟩
          obtain ⟨AI, cI, hiv⟩ := OwG.form HT0.out.2.2.2.2
          obtain ⟨AO, cO, hov⟩ := OwG.form HTk.out.2.2.1
          rw [List.length_map, List.length_range] at hov
          subst hov hiv
          have hgb := HTk.out.1
          have HBR : As (Box wr R #[.int .u32 0, .slice none 0 0, .slice none 0 0, .int .u32 0] 51) := ⟨by rw [HRR.out]; exact Box.grown HT0.out.2.1 hgb (fun e => by injection e with e; have := HG1.out; omega)⟩
          obtain ⟨d0, d1, d2, d3, -⟩ := Box.four HTk.out.2.1
          obtain ⟨q0, q1, q2, q3, fz⟩ := Box.four HBR.out
          clear hjn hgb
          go_wp2
          have HW4 := As.mk (And.intro (set4_box HBR.out (.int .u32 ((V + 1 : Nat) : Int)) (.slice AI (txOf n m).ins.length cI) (.slice AO j cO) (.int .u32 (L : Int))) (set4_grown wr R (.int .u32 ((V + 1 : Nat) : Int)) (.slice AI (txOf n m).ins.length cI) (.slice AO j cO) (.int .u32 (L : Int))))
          clear q0 q1 q2 q3 fz d0 d1 d2 d3
          change bodyPost _ _ _ _ _ ((((wr.setCell ⟨R, 0, none⟩ (.int .u32 ((V + 1 : Nat) : Int))).setCell ⟨R, 1, none⟩ (.slice AI (txOf n m).ins.length cI)).setCell ⟨R, 2, none⟩ (.slice AO j cO)).setCell ⟨R, 3, none⟩ (.int .u32 (L : Int)))
          generalize ((((wr.setCell ⟨R, 0, none⟩ (.int .u32 ((V + 1 : Nat) : Int))).setCell ⟨R, 1, none⟩ (.slice AI (txOf n m).ins.length cI)).setCell ⟨R, 2, none⟩ (.slice AO j cO)).setCell ⟨R, 3, none⟩ (.int .u32 (L : Int))) = W15 at HW4 ⊢
          obtain ⟨q0, q1, q2, q3, -⟩ := Box.four HW4.out.1
          refine bodyPost_ret (v := .agg #[.int .u32 ((V + 1 : Nat) : Int), .slice AI (txOf n m).ins.length cI, .slice AO j cO, .int .u32 (L : Int)]) (by simp [results, Try.results51, go_sem, q0, q1, q2, q3]) rfl ?_
          have hgw := HG1.out
          have hrw := HRR.out
          have hg0 := HTk.out.1
          have hg1 := HW4.out.2
          have hmid := HTk.out.2.2.2
          refine ⟨[.int .u32 ((V + 1 : Nat) : Int), .slice AI (txOf n m).ins.length cI, .slice AO j cO, .int .u32 (L : Int)], rfl, ⟨.slice AI (txOf n m).ins.length cI, .slice AO j cO, mid, ?_, ?_, ?_, by omega, ?_, txOf_ver n m, txOf_lock n m, ?_⟩, (HT0.out.1.grown hg0 HT0.out.1.size (fun k hk => by injection hk with hk; omega)).grown hg1 (Nat.le_trans HT0.out.1.size hg0.size) (fun k hk => by injection hk with hk; omega)⟩
          · rw [HV.out, HL.out]
          · refine OwG.mono ?_ (show w.heap.size ≤ G + 1 by omega) (InE.mono (show w.heap.size ≤ G + 1 by omega) _)
            exact OwG.read (l := []) (bad := false) (InE.read (by omega) hg1) (OwG.read (l := []) (bad := false) (InE.read (Nat.lt_succ_self G) hg0) HT0.out.2.2.2.2 hg0 (Nat.lt_succ_self G)) hg1 (by omega)
          · rw [← HYS.out]
            exact OwG.read (l := []) (bad := false) (OutE.read (by omega) hg1) HTk.out.2.2.1 hg1 (by omega)
          · intro k hk
            rw [hmid.2]
            exact (OwG.lt HT0.out.2.2.2.2 k hk).2
          · intro w' hag
            refine OwG.mono ?_ (show w.heap.size ≤ G + 1 by omega) (InE.mono (show w.heap.size ≤ G + 1 by omega) _)
            refine OwG.agree HT0.out.2.2.2.2 (agr_trans (b := W15) (agr_trans (b := wr) (agr_grown hg0 (Nat.le_refl _) (fun k hk => by injection hk with hk; omega)) (agr_grown hg1 hg0.size (fun k hk => by injection hk with hk; omega))) (fun j h1 h2 => hag j (by omega) (by omega)))
end Go.Proofs.Ytfggkljgfadacaa.W
