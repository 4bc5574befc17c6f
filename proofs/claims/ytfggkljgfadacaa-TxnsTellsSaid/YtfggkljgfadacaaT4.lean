/- txns.body: a transaction's inputs and outputs, behind bytes. -/
import Derived.Test.YtfggkljgfadacaaT3
import Derived.Deep.RegionHeld3
set_option linter.unusedVariables false
set_option linter.unusedSimpArgs false
namespace Go.Proofs.Ytfggkljgfadacaa.W
open Go.RowKit Go.Proofs.Ytfggkljgfadacaa.B Go.Proofs

/-- What stands while an input's bytes are told: the call's box, the input's own copy. -/
def KeepI (w W : World) (bx : Array Value) (G : Nat) (x : LIn) (A1 : Option Addr) (c1 : Nat) : Prop :=
  Below w.heap.size w W ∧ Box W w.heap.size bx 51 ∧ W.cell? ⟨G, 32, none⟩ = some (.int .u32 (x.vout : Int)) ∧ W.cell? ⟨G, 33, none⟩ = some (.slice A1 x.script.length c1) ∧ W.cell? ⟨G, 34, none⟩ = some (.int .u32 (x.seq : Int))
theorem KeepI.below {w W W' : World} {bx : Array Value} {G : Nat} {x : LIn} {A1 : Option Addr} {c1 : Nat} (h : KeepI w W bx G x A1 c1) (hb : Below W.heap.size W W') : KeepI w W' bx G x A1 c1 :=
  ⟨h.1.trans (hb.mono h.1.size), h.2.1.below hb, cell_below hb h.2.2.1, cell_below hb h.2.2.2.1, cell_below hb h.2.2.2.2⟩
theorem KeepI.drew {w W : World} {bx : Array Value} {G : Nat} {x : LIn} {A1 : Option Addr} {c1 : Nat} (h : KeepI w W bx G x A1 c1) : KeepI w W.drew bx G x A1 c1 := h.below (Below.refl _ _).drew
theorem Box.grown {w w' : World} {B : Nat} {cs : Array Value} {t : TypeId} {row : Option Nat} (h : Box w B cs t) (hg : w.grownBy w' row) (hne : row ≠ some B) : Box w' B cs t := by
  unfold Box
  rw [hg.block B h.lt (fun e => hne e.symm)]
  exact h
theorem KeepI.grown {w W W' : World} {bx : Array Value} {G : Nat} {x : LIn} {A1 : Option Addr} {c1 : Nat} (h : KeepI w W bx G x A1 c1) {row : Option Nat} (hg : W.grownBy W' row) (hG : ∀ k, row = some k → w.heap.size < k ∧ k ≠ G) : KeepI w W' bx G x A1 c1 := by
  have hne : row ≠ some G := fun e => (hG G e).2 rfl
  refine ⟨h.1.grown hg h.1.size (fun k hk => Nat.le_of_lt (hG k hk).1), h.2.1.grown hg (fun e => by have := (hG _ e).1; omega), hg.cell h.2.2.1 (fun e => hne e.symm), hg.cell h.2.2.2.1 (fun e => hne e.symm), hg.cell h.2.2.2.2 (fun e => hne e.symm)⟩
/-- The 32 first cells of an input's copy. -/
theorem prev_rd {w W : World} {G : Nat} {cs : List Value} {x : LIn} (hb : Box W G cs.toArray 55) (hi : InC w cs x) : RdB W (.slice (some ⟨G, 0, none⟩) 32 32) x.prev := by
  obtain ⟨sv, wv, rfl, h1, _⟩ := hi
  refine ⟨by simp, some ⟨G, 0, none⟩, 32, by rw [h1], by omega, by decide, by simp, ?_⟩
  rintro ad had j u hu
  obtain rfl := Option.some.inj had
  have hj : j < (x.prev.map u8v).length := (List.getElem?_eq_some_iff.1 hu).1
  rw [Addr.add_mid, Nat.zero_add]
  refine hb.cell j u ?_
  simp only [List.getElem?_toArray]
  rw [List.getElem?_append_left hj]
  exact hu
theorem flatMap_step {α : Type} (f : α → List UInt8) {xs : List α} {k : Nat} {x : α} (hk : xs[k]? = some x) : (xs.take (k + 1)).flatMap f = (xs.take k).flatMap f ++ f x := by
  rw [List.take_add_one, hk]
  simp
theorem cntB_length (x : List UInt8) (h : x.length ≤ 500) : (cntB x).length ≤ 505 := by
  have := cnt_length x.length
  unfold cntB
  rw [List.length_append]
  omega
theorem inB_length (x : LIn) (h : okIn x) (hp : x.prev.length = 32) : (inB x).length ≤ 545 := by
  have := cntB_length x.script h.1
  unfold inB
  simp only [List.length_append, le_length]
  omega
theorem outB_length (y : LOut) (h : okOut y) : (outB y).length ≤ 513 := by
  have := cntB_length y.script h
  unfold outB
  simp only [List.length_append, le_length]
  omega

set_option maxHeartbeats 8000000 in
set_option maxRecDepth 100000 in
theorem body_any (v : Value) (l : List UInt8) (cs : List Value) (t : LTx) (w : World) (hb : RdB w v l) (hl : l.length ≤ 1000) (hr : TxC w cs t) (hm : mayT t) :
    Calls Try.prog 73 #[v, .agg cs.toArray] w fun e w' => ∃ r, e = .returned r ∧ OwB w' w.heap.size 5 r (l ++ bodyB t) ∧ Below w.heap.size w w' := by
  obtain ⟨iv, ov, rfl, hi, ho, _⟩ := hr
  obtain ⟨AI, ci, rfl, hi1, hi2, _⟩ := hi.form
  obtain ⟨AO, co, rfl, ho1, ho2, _⟩ := ho.form
  have HI := As.mk hi
  have HO := As.mk ho
  have HV := As.mk hb
  have HL := As.mk hl
  have HM := As.mk hm
  have hmi : (t.ins.length : Int) ≤ 50 := by have := hm.2.2; omega
  have hmo : (t.outs.length : Int) ≤ 50 := by have := hm.2.2; omega
  clear hi ho hi1 hi2 ho1 ho2 hb hl hm
  have HX : As (Box (w.alloc (.cells #[.int .u32 (t.ver : Int), .slice AI t.ins.length ci, .slice AO t.outs.length co, .int .u32 (t.lock : Int)] 51)) w.heap.size #[.int .u32 (t.ver : Int), .slice AI t.ins.length ci, .slice AO t.outs.length co, .int .u32 (t.lock : Int)] 51) := ⟨Box.new _ _ _⟩
  have d1 := HX.out.cell 1 _ rfl
  go_enter Try.func73, Try.ntmps73
  go_upto_region 2 with (go_at_call 15; (with_reducible refine (count_any _ l _ _ (HV.out.alloc _) (by have := HL.out; omega)).mono ?_); rintro e w1 ⟨r, rfl, ho, hb⟩; have HR := As.mk ho; have HB := As.mk hb; clear ho hb)
  have HE : As (Below w.heap.size w w1 ∧ Box w1 w.heap.size #[.int .u32 (t.ver : Int), .slice AI t.ins.length ci, .slice AO t.outs.length co, .int .u32 (t.lock : Int)] 51) := ⟨((Below.refl _ _).alloc (Nat.le_refl _) _).trans (HB.out.mono (by simp)), HX.out.below HB.out⟩
  have HO1 : As (OwB w1 (w.heap.size + 1) 5 r (l ++ cnt t.ins.length)) := ⟨by have := HR.out; rw [clampU_len _ (by omega)] at this; simpa using this⟩
  clear HR HB HX d1
  have d1 := HE.out.2.cell 1 _ rfl
  go_wp2
  clear d1
  go_loopw [0, 17] (fun v0 v17 wr => ∃ (k : Nat) (L : List UInt8), v17 = .int .i64 (k : Int) ∧ (k : Int) ≤ t.ins.length ∧ As (Below w.heap.size w wr ∧ Box wr w.heap.size #[.int .u32 (t.ver : Int), .slice AI t.ins.length ci, .slice AO t.outs.length co, .int .u32 (t.lock : Int)] 51) ∧ As (OwB wr (w.heap.size + 1) 5 v0 L) ∧ As (L = l ++ cnt t.ins.length ++ (t.ins.take k).flatMap inB ∧ L.length ≤ l.length + 5 + 545 * k)) (fun _ v17 _ => t.ins.length - (intOf v17).toNat)
  case atStart => exact ⟨0, _, rfl, by omega, HE, HO1, ⟨by simp, by have := cnt_length t.ins.length; simp only [List.length_append]; omega⟩⟩
  case round =>
    obtain ⟨k, L, rfl, hk, HB, HV0, HLL⟩ := hrel
    by_cases hlt : (k : Int) < t.ins.length
    · obtain ⟨g, o, cs, x, A1, c1, A2, c2, rfl, HK, HLC, HG, H1, HX, h32, h33, h34, h35, HS, HW⟩ := RdIns.at HI.out k (by omega)
      have HGr := As.mk (rangeAt_below HG.out HB.out.1)
      have HOK := As.mk (HM.out.1 x (List.mem_of_getElem? HK.out))
      obtain ⟨W1, hW1⟩ : ∃ W, W = wr.alloc (.cells cs.toArray 55) := ⟨_, rfl⟩
      obtain ⟨G, hG⟩ : ∃ G, G = wr.heap.size := ⟨_, rfl⟩
      have HQ : As (KeepI w W1 #[.int .u32 (t.ver : Int), .slice (some ⟨g, o, none⟩) t.ins.length ci, .slice AO t.outs.length co, .int .u32 (t.lock : Int)] G x A1 c1) := ⟨by
        subst hW1 hG
        have hbx := Box.new wr cs.toArray 55
        exact ⟨HB.out.1.alloc HB.out.1.size _, HB.out.2.below ((Below.refl _ _).alloc (Nat.le_refl _) _), hbx.cell 32 _ (by simpa using h32), hbx.cell 33 _ (by simpa using h33), hbx.cell 34 _ (by simpa using h34)⟩⟩
      have HP : As (RdB W1 (.slice (some ⟨G, 0, none⟩) 32 32) x.prev) := ⟨by subst hW1 hG; exact prev_rd (Box.new _ _ _) HX.out⟩
      have HV1 : As (OwB W1 (w.heap.size + 1) 5 u0 L) := ⟨by subst hW1; exact HV0.out.alloc _⟩
      have HN : As (∀ b, u0.ownBlock = some b → w.heap.size < b ∧ b ≠ G) := ⟨fun b hb => by have := HV0.out.lt b hb; omega⟩
      have HGG : As (w.heap.size + 1 ≤ G ∧ G < W1.heap.size) := ⟨by subst hW1 hG; have := HB.out.2.lt; refine ⟨this, ?_⟩; simp⟩
      go_upto_region 5 with (first | ((with_reducible refine wpList_load_mid (op := ⟨_, .load 55 (.tmp 19), _, _, _, _⟩) ?hgd 55 (.tmp 19) rfl _ _ ?hx cs _ HGr.out Try.underlying55 rfl ?hi ?_); (case hgd => exact rfl); (case hx => exact rfl); (case hi => rw [HLC.out]; kernel_rfl)) | ((with_reducible refine wpList_store_new (op := ⟨_, .store 55 (.tmp 6) (.tmp 20), _, _, _, _⟩) ?hgd 55 (.tmp 6) (.tmp 20) rfl (wr) ?cc55 cs ?hw ?hx ?hy ?hi ?hc H1.out ?_); (case hgd => exact rfl); (case hw => exact rfl); (case hx => exact rfl); (case hy => exact rfl); (case hi => rw [HLC.out]; kernel_rfl); (case hc => rw [HLC.out]; exact rfl)))
      rw [← hW1, ← hG]
      clear hW1 hG HV0 HB h32 h33 h34 h35 HGr
      refine wp_region_held_drew (S := (fun W : World => KeepI w W #[.int .u32 (t.ver : Int), .slice (some ⟨g, o, none⟩) t.ins.length ci, .slice AO t.outs.length co, .int .u32 (t.lock : Int)] G x A1 c1)) (by kernel_rfl) ?_ (fun hHeld => ?_)
      · exact HQ.out.drew
      refine wpAnyH_take (i := 0) (oi := ?_) (v := ?_) (by simp only [List.getElem?_toArray, List.getElem?_cons_zero, List.getElem?_cons_succ]; rfl) (by kernel_rfl) (by kernel_rfl) (by kernel_rfl) (by exact fun _ _ _ h => h) (Or.inl ⟨by rfl, ?_⟩) (by assumption) ?_
      rotate_left
      · (intro w hSw; (try dsimp only at hSw); obtain ⟨-, -, q32, q33, q34⟩ := hSw; go_simp; first | done | with_reducible rfl)
      try simp only [Act.put, List.setIfInBounds_toArray, List.set_cons_zero, List.set_cons_succ]
      refine wpAnyH_take (i := 1) (oi := ?_) (v := ?_) (by simp only [List.getElem?_toArray, List.getElem?_cons_zero, List.getElem?_cons_succ]; rfl) (by kernel_rfl) (by kernel_rfl) (by kernel_rfl) (by exact fun _ _ _ h => h) (Or.inl ⟨by rfl, ?_⟩) (by assumption) ?_
      rotate_left
      · (intro w hSw; (try dsimp only at hSw); obtain ⟨-, -, q32, q33, q34⟩ := hSw; go_simp; first | done | with_reducible rfl)
      try simp only [Act.put, List.setIfInBounds_toArray, List.set_cons_zero, List.set_cons_succ]
      refine wpAnyH_take (i := 2) (oi := ?_) (v := ?_) (by simp only [List.getElem?_toArray, List.getElem?_cons_zero, List.getElem?_cons_succ]; rfl) (by kernel_rfl) (by kernel_rfl) (by kernel_rfl) (by exact fun _ _ _ h => h) (Or.inl ⟨by rfl, ?_⟩) (by assumption) ?_
      rotate_left
      · (intro w hSw; (try dsimp only at hSw); obtain ⟨-, -, q32, q33, q34⟩ := hSw; go_simp; first | done | with_reducible rfl)
      try simp only [Act.put, List.setIfInBounds_toArray, List.set_cons_zero, List.set_cons_succ]
      refine wpAnyH_take (i := 4) (oi := ?_) (v := ?_) (by simp only [List.getElem?_toArray, List.getElem?_cons_zero, List.getElem?_cons_succ]; rfl) (by kernel_rfl) (by kernel_rfl) (by kernel_rfl) (by exact fun _ _ _ h => h) (Or.inl ⟨by rfl, ?_⟩) (by assumption) ?_
      rotate_left
      · (intro w hSw; (try dsimp only at hSw); obtain ⟨-, -, q32, q33, q34⟩ := hSw; go_simp; first | done | with_reducible rfl)
      try simp only [Act.put, List.setIfInBounds_toArray, List.set_cons_zero, List.set_cons_succ]
      refine wpAnyH_take (i := 5) (oi := ?_) (v := ?_) (by simp only [List.getElem?_toArray, List.getElem?_cons_zero, List.getElem?_cons_succ]; rfl) (by kernel_rfl) (by kernel_rfl) (by kernel_rfl) (by exact fun _ _ _ h => h) (Or.inl ⟨by rfl, ?_⟩) (by assumption) ?_
      rotate_left
      · (intro w hSw; (try dsimp only at hSw); obtain ⟨-, -, q32, q33, q34⟩ := hSw; go_simp; first | done | with_reducible rfl)
      try simp only [Act.put, List.setIfInBounds_toArray, List.set_cons_zero, List.set_cons_succ]
      refine wpAnyH_ready (rs := [3]) (by kernel_rfl) (by simp) ?_
      refine AllReadyH.cons (o := ?_) (by simp only [List.getElem?_toArray, List.getElem?_cons_zero, List.getElem?_cons_succ]; rfl) (fun K hK => ?_) ?_
      · refine step_appB ?hgd (.tmp 21) (.tmp 23) ?ho ?hty (w.heap.size + 1) (u0) (L) ?hs ?hown (.slice (some ⟨G, 0, none⟩) 32 32) (x.prev) ?hx ?hy ?hl ?hb ?_
        case hgd => rfl
        case ho => rfl
        case hty => rfl
        case hs => rfl
        case hown => exact (OwS.drew HV1.out)
        case hx => rfl
        case hy => exact (RdS.drew HP.out)
        case hl => (have := HLL.out.2; have := HL.out; have := HX.out.prev; omega)
        case hb => have := HGG.out; simp; omega
        intro v3 w3 ho hg
        have hS2 := hHeld.grown hg HN.out
        have HO3 := As.mk ho
        clear ho hg
        refine hK.out _ _ ?_ (fun hHeld2 => ?_)
        · exact hS2
        clear hK K hHeld
        have hHeld := hHeld2
        clear hHeld2
        try simp only [Act.put, List.setIfInBounds_toArray, List.set_cons_zero, List.set_cons_succ]
        refine wpAnyH_ready (rs := [6]) (by kernel_rfl) (by simp) ?_
        refine AllReadyH.cons (o := ?_) (by simp only [List.getElem?_toArray, List.getElem?_cons_zero, List.getElem?_cons_succ]; rfl) (fun K hK => ?_) ?_
        · go_simp
          refine (small_any _ (L ++ x.prev) x.vout _ _ HO3.out.rd (by have := HLL.out.2; have := HL.out; have := HX.out.prev; rw [List.length_append]; omega) HX.out.vout rfl).mono ?_
          rintro e w6 ⟨r6, rfl, ho, hb⟩
          have HO6 := As.mk ho
          have hS2 := hHeld.below hb
          have H36 := As.mk hb.size
          clear ho hb
          dsimp only
          refine hK.out _ _ ?_ (fun hHeld2 => ?_)
          · exact hS2
          clear hK K hHeld
          have hHeld := hHeld2
          clear hHeld2
          try simp only [Act.put, List.setIfInBounds_toArray, List.set_cons_zero, List.set_cons_succ]
          refine wpAnyH_take (i := 7) (oi := ?_) (v := ?_) (by simp only [List.getElem?_toArray, List.getElem?_cons_zero, List.getElem?_cons_succ]; rfl) (by kernel_rfl) (by kernel_rfl) (by kernel_rfl) (by exact fun _ _ _ h => h) (Or.inl ⟨by rfl, ?_⟩) (by assumption) ?_
          rotate_left
          · (intro w hSw; (try dsimp only at hSw); obtain ⟨-, -, q32, q33, q34⟩ := hSw; go_simp; first | done | with_reducible rfl)
          try simp only [Act.put, List.setIfInBounds_toArray, List.set_cons_zero, List.set_cons_succ]
          refine wpAnyH_done (by kernel_rfl) ?_ _
          go_upto_region 6 with (fail)
          refine wp_region_held_drew (S := (fun W : World => KeepI w W #[.int .u32 (t.ver : Int), .slice (some ⟨g, o, none⟩) t.ins.length ci, .slice AO t.outs.length co, .int .u32 (t.lock : Int)] G x A1 c1)) (by kernel_rfl) ?_ (fun hHeld => ?_)
          · exact hHeld.drew
          refine wpAnyH_take (i := 0) (oi := ?_) (v := ?_) (by simp only [List.getElem?_toArray, List.getElem?_cons_zero, List.getElem?_cons_succ]; rfl) (by kernel_rfl) (by kernel_rfl) (by kernel_rfl) (by exact fun _ _ _ h => h) (Or.inl ⟨by rfl, ?_⟩) (by assumption) ?_
          rotate_left
          · (intro w hSw; (try dsimp only at hSw); obtain ⟨-, -, q32, q33, q34⟩ := hSw; go_simp; first | done | with_reducible rfl)
          try simp only [Act.put, List.setIfInBounds_toArray, List.set_cons_zero, List.set_cons_succ]
          refine wpAnyH_take (i := 1) (oi := ?_) (v := ?_) (by simp only [List.getElem?_toArray, List.getElem?_cons_zero, List.getElem?_cons_succ]; rfl) (by kernel_rfl) (by kernel_rfl) (by kernel_rfl) (by exact fun _ _ _ h => h) (Or.inl ⟨by rfl, ?_⟩) (by assumption) ?_
          rotate_left
          · (intro w hSw; (try dsimp only at hSw); obtain ⟨-, -, q32, q33, q34⟩ := hSw; go_simp; first | done | with_reducible rfl)
          try simp only [Act.put, List.setIfInBounds_toArray, List.set_cons_zero, List.set_cons_succ]
          refine wpAnyH_take (i := 2) (oi := ?_) (v := ?_) (by simp only [List.getElem?_toArray, List.getElem?_cons_zero, List.getElem?_cons_succ]; rfl) (by kernel_rfl) (by kernel_rfl) (by kernel_rfl) (by exact fun _ _ _ h => h) (Or.inl ⟨by rfl, ?_⟩) (by assumption) ?_
          rotate_left
          · (intro w hSw; (try dsimp only at hSw); obtain ⟨-, -, q32, q33, q34⟩ := hSw; go_simp; first | done | with_reducible rfl)
          try simp only [Act.put, List.setIfInBounds_toArray, List.set_cons_zero, List.set_cons_succ]
          refine wpAnyH_take (i := 4) (oi := ?_) (v := ?_) (by simp only [List.getElem?_toArray, List.getElem?_cons_zero, List.getElem?_cons_succ]; rfl) (by kernel_rfl) (by kernel_rfl) (by kernel_rfl) (by exact fun _ _ _ h => h) (Or.inl ⟨by rfl, ?_⟩) (by assumption) ?_
          rotate_left
          · (intro w hSw; (try dsimp only at hSw); obtain ⟨-, -, q32, q33, q34⟩ := hSw; go_simp; first | done | with_reducible rfl)
          try simp only [Act.put, List.setIfInBounds_toArray, List.set_cons_zero, List.set_cons_succ]
          refine wpAnyH_take (i := 5) (oi := ?_) (v := ?_) (by simp only [List.getElem?_toArray, List.getElem?_cons_zero, List.getElem?_cons_succ]; rfl) (by kernel_rfl) (by kernel_rfl) (by kernel_rfl) (by exact fun _ _ _ h => h) (Or.inl ⟨by rfl, ?_⟩) (by assumption) ?_
          rotate_left
          · (intro w hSw; (try dsimp only at hSw); obtain ⟨-, -, q32, q33, q34⟩ := hSw; go_simp; first | done | with_reducible rfl)
          try simp only [Act.put, List.setIfInBounds_toArray, List.set_cons_zero, List.set_cons_succ]
          refine wpAnyH_ready (rs := [3]) (by kernel_rfl) (by simp) ?_
          refine AllReadyH.cons (o := ?_) (by simp only [List.getElem?_toArray, List.getElem?_cons_zero, List.getElem?_cons_succ]; rfl) (fun K hK => ?_) ?_
          · go_simp
            refine (counted_any _ _ (L ++ x.prev ++ le x.vout 4) x.script _ (RdS.drew HO6.out.rd) (HS.out.below hHeld.1) (by have := HLL.out.2; have := HL.out; have := HX.out.prev; simp only [List.length_append, le_length]; omega) (by have := HOK.out.1; omega)).mono ?_
            rintro e w7 ⟨r7, rfl, ho, hb⟩
            have HO7 := As.mk ho
            have hS2 := hHeld.below hb
            have H67 := As.mk (Nat.lt_of_lt_of_le hHeld.2.1.lt hb.size)
            clear ho hb
            dsimp only
            refine hK.out _ _ ?_ (fun hHeld2 => ?_)
            · exact hS2
            clear hK K hHeld
            have hHeld := hHeld2
            clear hHeld2
            try simp only [Act.put, List.setIfInBounds_toArray, List.set_cons_zero, List.set_cons_succ]
            refine wpAnyH_ready (rs := [6]) (by kernel_rfl) (by simp) ?_
            refine AllReadyH.cons (o := ?_) (by simp only [List.getElem?_toArray, List.getElem?_cons_zero, List.getElem?_cons_succ]; rfl) (fun K hK => ?_) ?_
            · go_simp
              refine (small_any _ (L ++ x.prev ++ le x.vout 4 ++ cntB x.script) x.seq _ _ HO7.out.rd (by have := HLL.out.2; have := HL.out; have := HX.out.prev; have := cntB_length _ HOK.out.1; simp only [List.length_append, le_length]; omega) HX.out.seq rfl).mono ?_
              rintro e w8 ⟨r8, rfl, ho, hb⟩
              have HO8 := As.mk ho
              have hS2 := hHeld.below hb
              have H78 := As.mk hb.size
              clear ho hb
              dsimp only
              refine hK.out _ _ ?_ (fun hHeld2 => ?_)
              · exact hS2
              clear hK K hHeld
              have hHeld := hHeld2
              clear hHeld2
              try simp only [Act.put, List.setIfInBounds_toArray, List.set_cons_zero, List.set_cons_succ]
              refine wpAnyH_take (i := 7) (oi := ?_) (v := ?_) (by simp only [List.getElem?_toArray, List.getElem?_cons_zero, List.getElem?_cons_succ]; rfl) (by kernel_rfl) (by kernel_rfl) (by kernel_rfl) (by exact fun _ _ _ h => h) (Or.inl ⟨by rfl, ?_⟩) (by assumption) ?_
              rotate_left
              · (intro w hSw; (try dsimp only at hSw); obtain ⟨-, -, q32, q33, q34⟩ := hSw; go_simp; first | done | with_reducible rfl)
              try simp only [Act.put, List.setIfInBounds_toArray, List.set_cons_zero, List.set_cons_succ]
              refine wpAnyH_done (by kernel_rfl) ?_ _
              go_wp2_with fail
              go_roundw
              case rel =>
                refine ⟨k + 1, _, by go_num, by omega, ⟨hHeld.1, hHeld.2.1⟩, ⟨OwS.mono HO8.out ?_⟩, ⟨?_, ?_⟩⟩
                · exact H67.out
                · rw [flatMap_step inB HK.out, HLL.out.1]; simp only [inB, List.append_assoc]
                · have h1 := inB_length x HOK.out HX.out.prev; have h2 := HLL.out.2; unfold inB at h1; simp only [List.length_append] at h1 ⊢; omega
              case measure => simp [intOf]; omega
            exact AllReadyH.nil
          exact AllReadyH.nil
        exact AllReadyH.nil
      exact AllReadyH.nil
    · have HL2 : As (L = l ++ cnt t.ins.length ++ t.ins.flatMap inB ∧ L.length ≤ 30000) := ⟨by have := HLL.out.1; rwa [List.take_of_length_le (by omega)] at this, by have := HLL.out.2; have := HL.out; omega⟩
      have d2 := HB.out.2.cell 2 _ rfl
      go_upto_region 9 with (go_at_call 15; (with_reducible refine (count_any _ L _ _ HV0.out.rd (by have := HL2.out; omega)).mono ?_); rintro e w2 ⟨r2, rfl, ho, hb⟩; have HR2 := As.mk ho; have HB2 := As.mk hb; clear ho hb)
      have HE2 : As (Below w.heap.size w w2 ∧ Box w2 w.heap.size #[.int .u32 (t.ver : Int), .slice AI t.ins.length ci, .slice AO t.outs.length co, .int .u32 (t.lock : Int)] 51) := ⟨HB.out.1.trans (HB2.out.mono HB.out.1.size), HB.out.2.below HB2.out⟩
      have HO2 : As (OwB w2 (w.heap.size + 1) 5 r2 (L ++ cnt t.outs.length)) := ⟨by have := HR2.out; rw [clampU_len _ (by omega)] at this; exact OwS.mono this HB.out.2.lt⟩
      clear HR2 HB2 HB HLL d2 hk hlt HV0 HE HO1
      have d2 := HE2.out.2.cell 2 _ rfl
      go_wp2
      clear d2
      go_loopw [0, 44] (fun v0 v44 wr => ∃ (k : Nat) (M : List UInt8), v44 = .int .i64 (k : Int) ∧ (k : Int) ≤ t.outs.length ∧ As (Below w.heap.size w wr) ∧ As (OwB wr (w.heap.size + 1) 5 v0 M) ∧ As (M = L ++ cnt t.outs.length ++ (t.outs.take k).flatMap outB ∧ M.length ≤ L.length + 5 + 513 * k)) (fun _ v44 _ => t.outs.length - (intOf v44).toNat)
      case atStart => exact ⟨0, _, rfl, by omega, ⟨HE2.out.1⟩, HO2, ⟨by simp, by have := cnt_length t.outs.length; simp only [List.length_append]; omega⟩⟩
      case round =>
        obtain ⟨k, M, rfl, hk, HB, HV0, HLL⟩ := hrel
        by_cases hlt : (k : Int) < t.outs.length
        · obtain ⟨g, o, x, A1, c1, rfl, HK, h0, h1, HS, HVAL⟩ := RdOuts.at HO.out k (by omega)
          have HOK := As.mk (HM.out.2.1 x (List.mem_of_getElem? HK.out))
          have k0 := cell_below HB.out h0
          have k1 := cell_below HB.out h1
          clear h0 h1
          go_upto_region 12 with (fail)
          obtain ⟨W1, hW1⟩ : ∃ W, W = wr.alloc (.cells #[.int .u64 (x.value : Int), .slice A1 x.script.length c1] 57) := ⟨_, rfl⟩
          obtain ⟨G, hG⟩ : ∃ G, G = wr.heap.size := ⟨_, rfl⟩
          have HQ : As (Below w.heap.size w W1 ∧ Box W1 G #[.int .u64 (x.value : Int), .slice A1 x.script.length c1] 57) := ⟨by subst hW1 hG; exact ⟨HB.out.alloc HB.out.size _, Box.new _ _ _⟩⟩
          have HV1 : As (OwB W1 (w.heap.size + 1) 5 u0 M) := ⟨by subst hW1; exact HV0.out.alloc _⟩
          have HGG : As (w.heap.size + 1 ≤ W1.heap.size) := ⟨by subst hW1; have := HB.out.size; simp; omega⟩
          rw [← hW1, ← hG]
          clear hW1 hG HV0 HB k0 k1
          refine wp_region_held_drew (S := (fun W : World => Below w.heap.size w W ∧ Box W G #[.int .u64 (x.value : Int), .slice A1 x.script.length c1] 57)) (by kernel_rfl) ?_ (fun hHeld => ?_)
          · exact ⟨HQ.out.1.drew, HQ.out.2⟩
          refine wpAnyH_take (i := 0) (oi := ?_) (v := ?_) (by simp only [List.getElem?_toArray, List.getElem?_cons_zero, List.getElem?_cons_succ]; rfl) (by kernel_rfl) (by kernel_rfl) (by kernel_rfl) (by exact fun _ _ _ h => h) (Or.inl ⟨by rfl, ?_⟩) (by assumption) ?_
          rotate_left
          · (intro w hSw; (try dsimp only at hSw); have q0 := hSw.2.cell 0 _ rfl; have q1 := hSw.2.cell 1 _ rfl; clear hSw; go_simp; first | done | with_reducible rfl)
          try simp only [Act.put, List.setIfInBounds_toArray, List.set_cons_zero, List.set_cons_succ]
          refine wpAnyH_take (i := 1) (oi := ?_) (v := ?_) (by simp only [List.getElem?_toArray, List.getElem?_cons_zero, List.getElem?_cons_succ]; rfl) (by kernel_rfl) (by kernel_rfl) (by kernel_rfl) (by exact fun _ _ _ h => h) (Or.inl ⟨by rfl, ?_⟩) (by assumption) ?_
          rotate_left
          · (intro w hSw; (try dsimp only at hSw); have q0 := hSw.2.cell 0 _ rfl; have q1 := hSw.2.cell 1 _ rfl; clear hSw; go_simp; first | done | with_reducible rfl)
          try simp only [Act.put, List.setIfInBounds_toArray, List.set_cons_zero, List.set_cons_succ]
          refine wpAnyH_take (i := 2) (oi := ?_) (v := ?_) (by simp only [List.getElem?_toArray, List.getElem?_cons_zero, List.getElem?_cons_succ]; rfl) (by kernel_rfl) (by kernel_rfl) (by kernel_rfl) (by exact fun _ _ _ h => h) (Or.inl ⟨by rfl, ?_⟩) (by assumption) ?_
          rotate_left
          · (intro w hSw; (try dsimp only at hSw); have q0 := hSw.2.cell 0 _ rfl; have q1 := hSw.2.cell 1 _ rfl; clear hSw; go_simp; first | done | with_reducible rfl)
          try simp only [Act.put, List.setIfInBounds_toArray, List.set_cons_zero, List.set_cons_succ]
          refine wpAnyH_take (i := 4) (oi := ?_) (v := ?_) (by simp only [List.getElem?_toArray, List.getElem?_cons_zero, List.getElem?_cons_succ]; rfl) (by kernel_rfl) (by kernel_rfl) (by kernel_rfl) (by exact fun _ _ _ h => h) (Or.inl ⟨by rfl, ?_⟩) (by assumption) ?_
          rotate_left
          · (intro w hSw; (try dsimp only at hSw); have q0 := hSw.2.cell 0 _ rfl; have q1 := hSw.2.cell 1 _ rfl; clear hSw; go_simp; first | done | with_reducible rfl)
          try simp only [Act.put, List.setIfInBounds_toArray, List.set_cons_zero, List.set_cons_succ]
          refine wpAnyH_take (i := 5) (oi := ?_) (v := ?_) (by simp only [List.getElem?_toArray, List.getElem?_cons_zero, List.getElem?_cons_succ]; rfl) (by kernel_rfl) (by kernel_rfl) (by kernel_rfl) (by exact fun _ _ _ h => h) (Or.inl ⟨by rfl, ?_⟩) (by assumption) ?_
          rotate_left
          · (intro w hSw; (try dsimp only at hSw); have q0 := hSw.2.cell 0 _ rfl; have q1 := hSw.2.cell 1 _ rfl; clear hSw; go_simp; first | done | with_reducible rfl)
          try simp only [Act.put, List.setIfInBounds_toArray, List.set_cons_zero, List.set_cons_succ]
          refine wpAnyH_ready (rs := [3]) (by kernel_rfl) (by simp) ?_
          refine AllReadyH.cons (o := ?_) (by simp only [List.getElem?_toArray, List.getElem?_cons_zero, List.getElem?_cons_succ]; rfl) (fun K hK => ?_) ?_
          · go_simp
            refine (big_any _ M x.value _ _ (RdS.drew HV1.out.rd) (by have := HLL.out.2; have := HL2.out.2; omega) HVAL.out rfl).mono ?_
            rintro e w3 ⟨r3, rfl, ho, hb⟩
            have HO3 := As.mk ho
            have hS2 : Below w.heap.size w w3 ∧ Box w3 G #[.int .u64 (x.value : Int), .slice A1 x.script.length c1] 57 := ⟨hHeld.1.trans (hb.mono hHeld.1.size), hHeld.2.below hb⟩
            have H13 := As.mk hb.size
            clear ho hb
            dsimp only
            refine hK.out _ _ ?_ (fun hHeld2 => ?_)
            · exact hS2
            clear hK K hHeld
            have hHeld := hHeld2
            clear hHeld2
            try simp only [Act.put, List.setIfInBounds_toArray, List.set_cons_zero, List.set_cons_succ]
            refine wpAnyH_ready (rs := [6]) (by kernel_rfl) (by simp) ?_
            refine AllReadyH.cons (o := ?_) (by simp only [List.getElem?_toArray, List.getElem?_cons_zero, List.getElem?_cons_succ]; rfl) (fun K hK => ?_) ?_
            · go_simp
              refine (counted_any _ _ (M ++ le x.value 8) x.script _ HO3.out.rd (HS.out.below hHeld.1) (by have := HLL.out.2; have := HL2.out.2; simp only [List.length_append, le_length]; omega) (by have := HOK.out; unfold okOut at this; omega)).mono ?_
              rintro e w4 ⟨r4, rfl, ho, hb⟩
              have HO4 := As.mk ho
              have hS2 : Below w.heap.size w w4 ∧ Box w4 G #[.int .u64 (x.value : Int), .slice A1 x.script.length c1] 57 := ⟨hHeld.1.trans (hb.mono hHeld.1.size), hHeld.2.below hb⟩
              clear ho hb
              dsimp only
              refine hK.out _ _ ?_ (fun hHeld2 => ?_)
              · exact hS2
              clear hK K hHeld
              have hHeld := hHeld2
              clear hHeld2
              try simp only [Act.put, List.setIfInBounds_toArray, List.set_cons_zero, List.set_cons_succ]
              refine wpAnyH_take (i := 7) (oi := ?_) (v := ?_) (by simp only [List.getElem?_toArray, List.getElem?_cons_zero, List.getElem?_cons_succ]; rfl) (by kernel_rfl) (by kernel_rfl) (by kernel_rfl) (by exact fun _ _ _ h => h) (Or.inl ⟨by rfl, ?_⟩) (by assumption) ?_
              rotate_left
              · (intro w hSw; (try dsimp only at hSw); have q0 := hSw.2.cell 0 _ rfl; have q1 := hSw.2.cell 1 _ rfl; clear hSw; go_simp; first | done | with_reducible rfl)
              try simp only [Act.put, List.setIfInBounds_toArray, List.set_cons_zero, List.set_cons_succ]
              refine wpAnyH_done (by kernel_rfl) ?_ _
              go_wp2_with fail
              go_roundw
              case rel =>
                refine ⟨k + 1, _, by go_num, by omega, ⟨hHeld.1⟩, ⟨OwS.mono HO4.out ?_⟩, ⟨?_, ?_⟩⟩
                · exact Nat.le_trans HGG.out H13.out
                · rw [flatMap_step outB HK.out, HLL.out.1]; simp only [outB, List.append_assoc]
                · have h1 := outB_length x HOK.out; have h2 := HLL.out.2; unfold outB at h1; simp only [List.length_append] at h1 ⊢; omega
              case measure => simp [intOf]; omega
            exact AllReadyH.nil
          exact AllReadyH.nil
        · go_wp2
          go_ret
          refine ⟨_, rfl, ?_, HB.out⟩
          have h := HV0.out
          have h2 := HLL.out.1
          rw [List.take_of_length_le (by omega)] at h2
          rw [h2, HL2.out.1] at h
          have e : l ++ bodyB t = l ++ cnt t.ins.length ++ t.ins.flatMap inB ++ cnt t.outs.length ++ t.outs.flatMap outB := by simp only [bodyB, List.append_assoc]
          rw [e]
          exact OwS.mono h (by omega)
end Go.Proofs.Ytfggkljgfadacaa.W
