/- Two steps have one text just if they are the same in what their text tells. -/
import Derived.Test.YtodcbcpjlhlakaaDoorR25
set_option linter.unusedVariables false
set_option linter.unusedSimpArgs false
namespace Go.Proofs.YtodcbcpjlhlakaaDoor.W
open Go.RowKit Go.Proofs.YtodcbcpjlhlakaaDoor.B Go.Proofs

theorem step_as (k p n : Int) (g : Bool) (bs : List UInt8) (ls : List (List UInt8)) {T : List UInt8} (hT : stepL k p n g bs ls = T) (hz : SmallS ⟨k, p, n, g, bs, ls⟩) (bv lv : Value) (w : World) (h1 : RdB w bv bs) (h2 : RdW w lv ls) (he : Env w) :
    Calls Tryd.prog 9 #[.agg #[.int .i64 k, .int .i64 p, .int .i64 n, .bool g, bv, lv]] w fun e w' => e = .returned (.string ⟨T.toArray⟩) ∧ Below w.heap.size w w' := by
  obtain ⟨q1, q2, q3, q4, q5, q6⟩ := hz
  simp only at q1 q2 q3 q4 q5 q6
  rw [← hT]
  exact step_any k p n g bv lv bs ls w h1 h2 q4 q5 q6 (by omega) (by omega) (by omega) he
theorem same_as (k p n : Int) (g : Bool) (bs : List UInt8) (ls : List (List UInt8)) (k' p' n' : Int) (g' : Bool) (bs' : List UInt8) (ls' : List (List UInt8)) {d : Bool} (hd : decide ((⟨k, p, n, g, bs, ls⟩ : LStep) = ⟨k', p', n', g', bs', ls'⟩) = d) (bv lv bv' lv' : Value) (w : World) (h1 : RdB w bv bs) (h2 : RdW w lv ls) (h3 : RdB w bv' bs') (h4 : RdW w lv' ls') :
    Calls Tryd.prog 13 #[.agg #[.int .i64 k, .int .i64 p, .int .i64 n, .bool g, bv, lv], .agg #[.int .i64 k', .int .i64 p', .int .i64 n', .bool g', bv', lv']] w fun e w' => e = .returned (.bool d) ∧ Below w.heap.size w w' := by
  rw [← hd]
  exact same_any ⟨k, p, n, g, bs, ls⟩ ⟨k', p', n', g', bs', ls'⟩ bv lv bv' lv' w ⟨h1, h2⟩ ⟨h3, h4⟩
theorem of_as (n : Int) (w : World) : Calls Tryd.prog 15 #[.int .i64 n] w fun e w' => ∃ k p m g bs ls Ab cb Al cl, e = .returned (.agg #[.int .i64 k, .int .i64 p, .int .i64 m, .bool g, .slice Ab (List.length bs) cb, .slice Al (List.length ls) cl]) ∧
    RdB w' (.slice Ab (List.length bs) cb) bs ∧ RdW w' (.slice Al (List.length ls) cl) ls ∧ onlyL ⟨k, p, m, g, bs, ls⟩ = ⟨k, p, m, g, bs, ls⟩ ∧ SmallS ⟨k, p, m, g, bs, ls⟩ ∧ Below w.heap.size w w' := by
  refine (of_any n w).mono ?_
  rintro e w' ⟨⟨k, p, m, g, bs, ls⟩, Ab, cb, Al, cl, rfl, ⟨h1, h2⟩, h3, h4, h5⟩
  exact ⟨k, p, m, g, bs, ls, Ab, cb, Al, cl, rfl, h1, h2, h3, h4, h5⟩
theorem awake_as (w : World) (he : Env w) : Calls Tryd.prog 8 #[] w fun e w' => e = .returned (.bool true) ∧ Below w.heap.size w w' := awake_any w he
/-- The texts are one just if the steps are. -/
theorem apart {a b : LStep} (ha : SmallS a) (hb : SmallS b) (hoa : onlyL a = a) (hob : onlyL b = b) : (textL a == textL b) = decide (a = b) := by
  by_cases h : a = b
  · subst h; simp
  · have : textL a ≠ textL b := fun e => h (by have := text_inj ha.1 ha.2.1 ha.2.2.1 hb.1 hb.2.1 hb.2.2.1 e; rwa [hoa, hob] at this)
    rw [decide_eq_false h, beq_eq_false_iff_ne.2 this]
set_option maxHeartbeats 8000000 in
set_option maxRecDepth 100000 in
theorem apart_walk (a b : Int) (alike : Bool) (w : World) (he : Env w) : Calls Tryd.prog 5 #[.int .i64 a, .int .i64 b, .bool alike] w fun e w' => e = .returned (.bool true) ∧ Below w.heap.size w w' := by
  have HEN := As.mk he
  clear he
  go_enter Tryd.func5, Tryd.ntmps5
  obtain ⟨a', ha'⟩ : ∃ x, bits .and .i64 a 65535 = x := ⟨_, rfl⟩
  obtain ⟨b', hb'⟩ : ∃ x, bits .and .i64 b 65535 = x := ⟨_, rfl⟩
  cases alike with
  | true =>
    go_upto_region 6 with (go_at_call 15; first | ((with_reducible refine (of_as a' w).mono ?_); rintro e w1 ⟨kx, px, nx, gx, bx, lx, Ax, cx, Lx, dx, rfl, h1, h2, h3, h4, hb⟩; have HX1 := As.mk h1; have HX2 := As.mk h2; have HX3 := As.mk h3; have HX4 := As.mk h4; have HB1 := As.mk hb; clear h1 h2 h3 h4 hb) | ((with_reducible refine (of_as a' w1).mono ?_); rintro e w2 ⟨ky, py, ny, gy, bY, ly, Ay, cy, Ly, dy, rfl, h1, h2, h3, h4, hb⟩; have HY1 := As.mk h1; have HY2 := As.mk h2; have HY3 := As.mk h3; have HY4 := As.mk h4; have HB2 := As.mk hb; clear h1 h2 h3 h4 hb))
    have HBW : As (Below w.heap.size w ((w2.alloc (.cells #[.int .i64 kx, .int .i64 px, .int .i64 nx, .bool gx, .slice Ax (List.length bx) cx, .slice Lx (List.length lx) dx] 35)).alloc (.cells #[.int .i64 ky, .int .i64 py, .int .i64 ny, .bool gy, .slice Ay (List.length bY) cy, .slice Ly (List.length ly) dy] 35))) := ⟨(HB1.out.trans (HB2.out.mono HB1.out.size)).trans (((below_al w2 _).alloc (by simp) _).mono (Nat.le_trans HB1.out.size HB2.out.size))⟩
    have HB3 : As (Below w2.heap.size w2 ((w2.alloc (.cells #[.int .i64 kx, .int .i64 px, .int .i64 nx, .bool gx, .slice Ax (List.length bx) cx, .slice Lx (List.length lx) dx] 35)).alloc (.cells #[.int .i64 ky, .int .i64 py, .int .i64 ny, .bool gy, .slice Ay (List.length bY) cy, .slice Ly (List.length ly) dy] 35))) := ⟨(below_al w2 _).alloc (by simp) _⟩
    have HBX : As (Box ((w2.alloc (.cells #[.int .i64 kx, .int .i64 px, .int .i64 nx, .bool gx, .slice Ax (List.length bx) cx, .slice Lx (List.length lx) dx] 35)).alloc (.cells #[.int .i64 ky, .int .i64 py, .int .i64 ny, .bool gy, .slice Ay (List.length bY) cy, .slice Ly (List.length ly) dy] 35)) w2.heap.size #[.int .i64 kx, .int .i64 px, .int .i64 nx, .bool gx, .slice Ax (List.length bx) cx, .slice Lx (List.length lx) dx] 35) := ⟨Box.below (Box.new w2 _ 35) (below_al _ _)⟩
    have HBY : As (Box ((w2.alloc (.cells #[.int .i64 kx, .int .i64 px, .int .i64 nx, .bool gx, .slice Ax (List.length bx) cx, .slice Lx (List.length lx) dx] 35)).alloc (.cells #[.int .i64 ky, .int .i64 py, .int .i64 ny, .bool gy, .slice Ay (List.length bY) cy, .slice Ly (List.length ly) dy] 35)) (w2.heap.size + 1) #[.int .i64 ky, .int .i64 py, .int .i64 ny, .bool gy, .slice Ay (List.length bY) cy, .slice Ly (List.length ly) dy] 35) := ⟨by have h := Box.new (w2.alloc (.cells #[.int .i64 kx, .int .i64 px, .int .i64 nx, .bool gx, .slice Ax (List.length bx) cx, .slice Lx (List.length lx) dx] 35)) #[.int .i64 ky, .int .i64 py, .int .i64 ny, .bool gy, .slice Ay (List.length bY) cy, .slice Ly (List.length ly) dy] 35; simpa using h⟩
    generalize ((w2.alloc (.cells #[.int .i64 kx, .int .i64 px, .int .i64 nx, .bool gx, .slice Ax (List.length bx) cx, .slice Lx (List.length lx) dx] 35)).alloc (.cells #[.int .i64 ky, .int .i64 py, .int .i64 ny, .bool gy, .slice Ay (List.length bY) cy, .slice Ly (List.length ly) dy] 35)) = W3 at HBW HB3 HBX HBY ⊢
    have HE := As.mk (HEN.out.below HBW.out)
    have HA1 := As.mk (RdS.below (RdS.below HX1.out HB2.out) HB3.out)
    have HA2 := As.mk ((HX2.out.below HB2.out).below HB3.out)
    have HC1 := As.mk (RdS.below HY1.out HB3.out)
    have HC2 := As.mk (HY2.out.below HB3.out)
    generalize w2.heap.size + 1 = GY at HBY ⊢
    generalize w2.heap.size = GX at HBX ⊢
    have X0 := As.mk (HBX.out.cell 0 _ rfl)
    have Y0 := As.mk (HBY.out.cell 0 _ rfl)
    have X1 := As.mk (HBX.out.cell 1 _ rfl)
    have Y1 := As.mk (HBY.out.cell 1 _ rfl)
    have X2 := As.mk (HBX.out.cell 2 _ rfl)
    have Y2 := As.mk (HBY.out.cell 2 _ rfl)
    have X3 := As.mk (HBX.out.cell 3 _ rfl)
    have Y3 := As.mk (HBY.out.cell 3 _ rfl)
    have X4 := As.mk (HBX.out.cell 4 _ rfl)
    have Y4 := As.mk (HBY.out.cell 4 _ rfl)
    have X5 := As.mk (HBX.out.cell 5 _ rfl)
    have Y5 := As.mk (HBY.out.cell 5 _ rfl)
    obtain ⟨TX, hTX⟩ : ∃ T, stepL kx px nx gx bx lx = T := ⟨_, rfl⟩
    obtain ⟨TY, hTY⟩ : ∃ T, stepL ky py ny gy bY ly = T := ⟨_, rfl⟩
    obtain ⟨d, hd⟩ : ∃ d, decide ((⟨kx, px, nx, gx, bx, lx⟩ : LStep) = ⟨ky, py, ny, gy, bY, ly⟩) = d := ⟨_, rfl⟩
    have hTD : (TX == TY) = d := by
      have h := apart HX4.out HY4.out HX3.out HY3.out
      rw [← hTX, ← hTY, ← hd]
      exact h
    have HTX := As.mk hTX
    have HTY := As.mk hTY
    have HD := As.mk hd
    clear hTX hTY hd
    refine wp_region_held_drew (S := (fun V : World => Below W3.heap.size W3 V)) (by kernel_rfl) ?_ (fun hHeld => ?_)
    · exact below_dr W3
    refine wpAnyH_take (i := 0) (oi := ?_) (v := ?_) (by simp only [List.getElem?_toArray, List.getElem?_cons_zero, List.getElem?_cons_succ]; rfl) (by kernel_rfl) (by kernel_rfl) (by kernel_rfl) (by exact fun _ _ _ h => h) (Or.inl ⟨by rfl, ?_⟩) (by assumption) ?_
    rotate_left
    · (intro w hSw; (try dsimp only at hSw); have x0 := cell_below hSw X0.out; have y0 := cell_below hSw Y0.out; have x1 := cell_below hSw X1.out; have y1 := cell_below hSw Y1.out; have x2 := cell_below hSw X2.out; have y2 := cell_below hSw Y2.out; have x3 := cell_below hSw X3.out; have y3 := cell_below hSw Y3.out; have x4 := cell_below hSw X4.out; have y4 := cell_below hSw Y4.out; have x5 := cell_below hSw X5.out; have y5 := cell_below hSw Y5.out; clear hSw; go_simp; first | done | with_reducible rfl)
    try simp only [Act.put, List.setIfInBounds_toArray, List.set_cons_zero, List.set_cons_succ]
    refine wpAnyH_take (i := 2) (oi := ?_) (v := ?_) (by simp only [List.getElem?_toArray, List.getElem?_cons_zero, List.getElem?_cons_succ]; rfl) (by kernel_rfl) (by kernel_rfl) (by kernel_rfl) (by exact fun _ _ _ h => h) (Or.inl ⟨by rfl, ?_⟩) (by assumption) ?_
    rotate_left
    · (intro w hSw; (try dsimp only at hSw); have x0 := cell_below hSw X0.out; have y0 := cell_below hSw Y0.out; have x1 := cell_below hSw X1.out; have y1 := cell_below hSw Y1.out; have x2 := cell_below hSw X2.out; have y2 := cell_below hSw Y2.out; have x3 := cell_below hSw X3.out; have y3 := cell_below hSw Y3.out; have x4 := cell_below hSw X4.out; have y4 := cell_below hSw Y4.out; have x5 := cell_below hSw X5.out; have y5 := cell_below hSw Y5.out; clear hSw; go_simp; first | done | with_reducible rfl)
    try simp only [Act.put, List.setIfInBounds_toArray, List.set_cons_zero, List.set_cons_succ]
    refine wpAnyH_take (i := 5) (oi := ?_) (v := ?_) (by simp only [List.getElem?_toArray, List.getElem?_cons_zero, List.getElem?_cons_succ]; rfl) (by kernel_rfl) (by kernel_rfl) (by kernel_rfl) (by exact fun _ _ _ h => h) (Or.inl ⟨by rfl, ?_⟩) (by assumption) ?_
    rotate_left
    · (intro w hSw; (try dsimp only at hSw); have x0 := cell_below hSw X0.out; have y0 := cell_below hSw Y0.out; have x1 := cell_below hSw X1.out; have y1 := cell_below hSw Y1.out; have x2 := cell_below hSw X2.out; have y2 := cell_below hSw Y2.out; have x3 := cell_below hSw X3.out; have y3 := cell_below hSw Y3.out; have x4 := cell_below hSw X4.out; have y4 := cell_below hSw Y4.out; have x5 := cell_below hSw X5.out; have y5 := cell_below hSw Y5.out; clear hSw; go_simp; first | done | with_reducible rfl)
    try simp only [Act.put, List.setIfInBounds_toArray, List.set_cons_zero, List.set_cons_succ]
    refine wpAnyH_take (i := 6) (oi := ?_) (v := ?_) (by simp only [List.getElem?_toArray, List.getElem?_cons_zero, List.getElem?_cons_succ]; rfl) (by kernel_rfl) (by kernel_rfl) (by kernel_rfl) (by exact fun _ _ _ h => h) (Or.inl ⟨by rfl, ?_⟩) (by assumption) ?_
    rotate_left
    · (intro w hSw; (try dsimp only at hSw); have x0 := cell_below hSw X0.out; have y0 := cell_below hSw Y0.out; have x1 := cell_below hSw X1.out; have y1 := cell_below hSw Y1.out; have x2 := cell_below hSw X2.out; have y2 := cell_below hSw Y2.out; have x3 := cell_below hSw X3.out; have y3 := cell_below hSw Y3.out; have x4 := cell_below hSw X4.out; have y4 := cell_below hSw Y4.out; have x5 := cell_below hSw X5.out; have y5 := cell_below hSw Y5.out; clear hSw; go_simp; first | done | with_reducible rfl)
    try simp only [Act.put, List.setIfInBounds_toArray, List.set_cons_zero, List.set_cons_succ]
    refine wpAnyH_ready (rs := [1]) (by kernel_rfl) (by simp) ?_
    refine AllReadyH.cons (o := ?_) (by simp only [List.getElem?_toArray, List.getElem?_cons_zero, List.getElem?_cons_succ]; rfl) (fun K hK => ?_) ?_
    · go_simp
      (with_reducible refine (step_as kx px nx gx bx lx HTX.out HX4.out _ _ _ (RdS.below HA1.out hHeld) (HA2.out.below hHeld) (HE.out.below hHeld)).mono ?_)
      rintro e w4 ⟨rfl, hb⟩
      have hS2 := hHeld.trans (hb.mono hHeld.size)
      clear hb
      dsimp only
      refine hK.out _ _ ?_ (fun hHeld2 => ?_)
      · exact hS2
      clear hK K hHeld
      have hHeld := hHeld2
      clear hHeld2
      try simp only [Act.put, List.setIfInBounds_toArray, List.set_cons_zero, List.set_cons_succ]
      refine wpAnyH_ready (rs := [3]) (by kernel_rfl) (by simp) ?_
      refine AllReadyH.cons (o := ?_) (by simp only [List.getElem?_toArray, List.getElem?_cons_zero, List.getElem?_cons_succ]; rfl) (fun K hK => ?_) ?_
      · go_simp
        (with_reducible refine (step_as ky py ny gy bY ly HTY.out HY4.out _ _ _ (RdS.below HC1.out hHeld) (HC2.out.below hHeld) (HE.out.below hHeld)).mono ?_)
        rintro e w5 ⟨rfl, hb⟩
        have hS2 := hHeld.trans (hb.mono hHeld.size)
        clear hb
        dsimp only
        refine hK.out _ _ ?_ (fun hHeld2 => ?_)
        · exact hS2
        clear hK K hHeld
        have hHeld := hHeld2
        clear hHeld2
        try simp only [Act.put, List.setIfInBounds_toArray, List.set_cons_zero, List.set_cons_succ]
        refine wpAnyH_take (i := 4) (oi := ?_) (v := ?_) (by simp only [List.getElem?_toArray, List.getElem?_cons_zero, List.getElem?_cons_succ]; rfl) (by kernel_rfl) (by kernel_rfl) (by kernel_rfl) (by exact fun _ _ _ h => h) (Or.inl ⟨by rfl, ?_⟩) (by assumption) ?_
        rotate_left
        · (intro w hSw; (try dsimp only at hSw); have x0 := cell_below hSw X0.out; have y0 := cell_below hSw Y0.out; have x1 := cell_below hSw X1.out; have y1 := cell_below hSw Y1.out; have x2 := cell_below hSw X2.out; have y2 := cell_below hSw Y2.out; have x3 := cell_below hSw X3.out; have y3 := cell_below hSw Y3.out; have x4 := cell_below hSw X4.out; have y4 := cell_below hSw Y4.out; have x5 := cell_below hSw X5.out; have y5 := cell_below hSw Y5.out; clear hSw; go_simp; first | done | with_reducible rfl)
        try simp only [Act.put, List.setIfInBounds_toArray, List.set_cons_zero, List.set_cons_succ]
        refine wpAnyH_ready (rs := [7]) (by kernel_rfl) (by simp) ?_
        refine AllReadyH.cons (o := ?_) (by simp only [List.getElem?_toArray, List.getElem?_cons_zero, List.getElem?_cons_succ]; rfl) (fun K hK => ?_) ?_
        · go_simp
          (with_reducible refine (same_as kx px nx gx bx lx ky py ny gy bY ly HD.out _ _ _ _ _ (RdS.below HA1.out hHeld) (HA2.out.below hHeld) (RdS.below HC1.out hHeld) (HC2.out.below hHeld)).mono ?_)
          rintro e w6 ⟨rfl, hb⟩
          have hS2 := hHeld.trans (hb.mono hHeld.size)
          clear hb
          dsimp only
          refine hK.out _ _ ?_ (fun hHeld2 => ?_)
          · exact hS2
          clear hK K hHeld
          have hHeld := hHeld2
          clear hHeld2
          try simp only [Act.put, List.setIfInBounds_toArray, List.set_cons_zero, List.set_cons_succ]
          refine wpAnyH_take (i := 8) (oi := ?_) (v := ?_) (by simp only [List.getElem?_toArray, List.getElem?_cons_zero, List.getElem?_cons_succ]; rfl) (by kernel_rfl) (by kernel_rfl) (by kernel_rfl) (by exact fun _ _ _ h => h) (Or.inl ⟨by rfl, ?_⟩) (by assumption) ?_
          rotate_left
          · (intro w hSw; (try dsimp only at hSw); have x0 := cell_below hSw X0.out; have y0 := cell_below hSw Y0.out; have x1 := cell_below hSw X1.out; have y1 := cell_below hSw Y1.out; have x2 := cell_below hSw X2.out; have y2 := cell_below hSw Y2.out; have x3 := cell_below hSw X3.out; have y3 := cell_below hSw Y3.out; have x4 := cell_below hSw X4.out; have y4 := cell_below hSw Y4.out; have x5 := cell_below hSw X5.out; have y5 := cell_below hSw Y5.out; clear hSw; go_simp; first | done | with_reducible rfl)
          try simp only [Act.put, List.setIfInBounds_toArray, List.set_cons_zero, List.set_cons_succ]
          refine wpAnyH_take (i := 9) (oi := ?_) (v := ?_) (by simp only [List.getElem?_toArray, List.getElem?_cons_zero, List.getElem?_cons_succ]; rfl) (by kernel_rfl) (by kernel_rfl) (by kernel_rfl) (by exact fun _ _ _ h => h) (Or.inl ⟨by rfl, ?_⟩) (by assumption) ?_
          rotate_left
          · (intro w hSw; (try dsimp only at hSw); have x0 := cell_below hSw X0.out; have y0 := cell_below hSw Y0.out; have x1 := cell_below hSw X1.out; have y1 := cell_below hSw Y1.out; have x2 := cell_below hSw X2.out; have y2 := cell_below hSw Y2.out; have x3 := cell_below hSw X3.out; have y3 := cell_below hSw Y3.out; have x4 := cell_below hSw X4.out; have y4 := cell_below hSw Y4.out; have x5 := cell_below hSw X5.out; have y5 := cell_below hSw Y5.out; clear hSw; go_simp; first | done | with_reducible rfl)
          try simp only [Act.put, List.setIfInBounds_toArray, List.set_cons_zero, List.set_cons_succ]
          refine wpAnyH_ready (rs := [10]) (by kernel_rfl) (by simp) ?_
          refine AllReadyH.cons (o := ?_) (by simp only [List.getElem?_toArray, List.getElem?_cons_zero, List.getElem?_cons_succ]; rfl) (fun K hK => ?_) ?_
          · go_simp
            (with_reducible refine (awake_as _ (HE.out.below hHeld)).mono ?_)
            rintro e w7 ⟨rfl, hb⟩
            have hS2 := hHeld.trans (hb.mono hHeld.size)
            clear hb
            dsimp only
            refine hK.out _ _ ?_ (fun hHeld2 => ?_)
            · exact hS2
            clear hK K hHeld
            have hHeld := hHeld2
            clear hHeld2
            try simp only [Act.put, List.setIfInBounds_toArray, List.set_cons_zero, List.set_cons_succ]
            refine wpAnyH_take (i := 11) (oi := ?_) (v := ?_) (by simp only [List.getElem?_toArray, List.getElem?_cons_zero, List.getElem?_cons_succ]; rfl) (by kernel_rfl) (by kernel_rfl) (by kernel_rfl) (by exact fun _ _ _ h => h) (Or.inl ⟨by rfl, ?_⟩) (by assumption) ?_
            rotate_left
            · (intro w hSw; (try dsimp only at hSw); have x0 := cell_below hSw X0.out; have y0 := cell_below hSw Y0.out; have x1 := cell_below hSw X1.out; have y1 := cell_below hSw Y1.out; have x2 := cell_below hSw X2.out; have y2 := cell_below hSw Y2.out; have x3 := cell_below hSw X3.out; have y3 := cell_below hSw Y3.out; have x4 := cell_below hSw X4.out; have y4 := cell_below hSw Y4.out; have x5 := cell_below hSw X5.out; have y5 := cell_below hSw Y5.out; clear hSw; go_simp; first | done | with_reducible rfl)
            try simp only [Act.put, List.setIfInBounds_toArray, List.set_cons_zero, List.set_cons_succ]
            refine wpAnyH_take (i := 12) (oi := ?_) (v := ?_) (by simp only [List.getElem?_toArray, List.getElem?_cons_zero, List.getElem?_cons_succ]; rfl) (by kernel_rfl) (by kernel_rfl) (by kernel_rfl) (by exact fun _ _ _ h => h) (Or.inl ⟨by rfl, ?_⟩) (by assumption) ?_
            rotate_left
            · (intro w hSw; (try dsimp only at hSw); have x0 := cell_below hSw X0.out; have y0 := cell_below hSw Y0.out; have x1 := cell_below hSw X1.out; have y1 := cell_below hSw Y1.out; have x2 := cell_below hSw X2.out; have y2 := cell_below hSw Y2.out; have x3 := cell_below hSw X3.out; have y3 := cell_below hSw Y3.out; have x4 := cell_below hSw X4.out; have y4 := cell_below hSw Y4.out; have x5 := cell_below hSw X5.out; have y5 := cell_below hSw Y5.out; clear hSw; go_simp; first | done | with_reducible rfl)
            try simp only [Act.put, List.setIfInBounds_toArray, List.set_cons_zero, List.set_cons_succ]
            refine wpAnyH_done (by kernel_rfl) ?_ _
            have HFIN := As.mk (HBW.out.trans (hHeld.mono HBW.out.size))
            clear hHeld
            go_wp2
            go_ret
            exact ⟨rfl, HFIN.out⟩
          exact AllReadyH.nil
        exact AllReadyH.nil
      exact AllReadyH.nil
    exact AllReadyH.nil
  | false =>
    go_upto_region 6 with (go_at_call 15; first | ((with_reducible refine (of_as a' w).mono ?_); rintro e w1 ⟨kx, px, nx, gx, bx, lx, Ax, cx, Lx, dx, rfl, h1, h2, h3, h4, hb⟩; have HX1 := As.mk h1; have HX2 := As.mk h2; have HX3 := As.mk h3; have HX4 := As.mk h4; have HB1 := As.mk hb; clear h1 h2 h3 h4 hb) | ((with_reducible refine (of_as b' w1).mono ?_); rintro e w2 ⟨ky, py, ny, gy, bY, ly, Ay, cy, Ly, dy, rfl, h1, h2, h3, h4, hb⟩; have HY1 := As.mk h1; have HY2 := As.mk h2; have HY3 := As.mk h3; have HY4 := As.mk h4; have HB2 := As.mk hb; clear h1 h2 h3 h4 hb))
    have HBW : As (Below w.heap.size w ((w2.alloc (.cells #[.int .i64 kx, .int .i64 px, .int .i64 nx, .bool gx, .slice Ax (List.length bx) cx, .slice Lx (List.length lx) dx] 35)).alloc (.cells #[.int .i64 ky, .int .i64 py, .int .i64 ny, .bool gy, .slice Ay (List.length bY) cy, .slice Ly (List.length ly) dy] 35))) := ⟨(HB1.out.trans (HB2.out.mono HB1.out.size)).trans (((below_al w2 _).alloc (by simp) _).mono (Nat.le_trans HB1.out.size HB2.out.size))⟩
    have HB3 : As (Below w2.heap.size w2 ((w2.alloc (.cells #[.int .i64 kx, .int .i64 px, .int .i64 nx, .bool gx, .slice Ax (List.length bx) cx, .slice Lx (List.length lx) dx] 35)).alloc (.cells #[.int .i64 ky, .int .i64 py, .int .i64 ny, .bool gy, .slice Ay (List.length bY) cy, .slice Ly (List.length ly) dy] 35))) := ⟨(below_al w2 _).alloc (by simp) _⟩
    have HBX : As (Box ((w2.alloc (.cells #[.int .i64 kx, .int .i64 px, .int .i64 nx, .bool gx, .slice Ax (List.length bx) cx, .slice Lx (List.length lx) dx] 35)).alloc (.cells #[.int .i64 ky, .int .i64 py, .int .i64 ny, .bool gy, .slice Ay (List.length bY) cy, .slice Ly (List.length ly) dy] 35)) w2.heap.size #[.int .i64 kx, .int .i64 px, .int .i64 nx, .bool gx, .slice Ax (List.length bx) cx, .slice Lx (List.length lx) dx] 35) := ⟨Box.below (Box.new w2 _ 35) (below_al _ _)⟩
    have HBY : As (Box ((w2.alloc (.cells #[.int .i64 kx, .int .i64 px, .int .i64 nx, .bool gx, .slice Ax (List.length bx) cx, .slice Lx (List.length lx) dx] 35)).alloc (.cells #[.int .i64 ky, .int .i64 py, .int .i64 ny, .bool gy, .slice Ay (List.length bY) cy, .slice Ly (List.length ly) dy] 35)) (w2.heap.size + 1) #[.int .i64 ky, .int .i64 py, .int .i64 ny, .bool gy, .slice Ay (List.length bY) cy, .slice Ly (List.length ly) dy] 35) := ⟨by have h := Box.new (w2.alloc (.cells #[.int .i64 kx, .int .i64 px, .int .i64 nx, .bool gx, .slice Ax (List.length bx) cx, .slice Lx (List.length lx) dx] 35)) #[.int .i64 ky, .int .i64 py, .int .i64 ny, .bool gy, .slice Ay (List.length bY) cy, .slice Ly (List.length ly) dy] 35; simpa using h⟩
    generalize ((w2.alloc (.cells #[.int .i64 kx, .int .i64 px, .int .i64 nx, .bool gx, .slice Ax (List.length bx) cx, .slice Lx (List.length lx) dx] 35)).alloc (.cells #[.int .i64 ky, .int .i64 py, .int .i64 ny, .bool gy, .slice Ay (List.length bY) cy, .slice Ly (List.length ly) dy] 35)) = W3 at HBW HB3 HBX HBY ⊢
    have HE := As.mk (HEN.out.below HBW.out)
    have HA1 := As.mk (RdS.below (RdS.below HX1.out HB2.out) HB3.out)
    have HA2 := As.mk ((HX2.out.below HB2.out).below HB3.out)
    have HC1 := As.mk (RdS.below HY1.out HB3.out)
    have HC2 := As.mk (HY2.out.below HB3.out)
    generalize w2.heap.size + 1 = GY at HBY ⊢
    generalize w2.heap.size = GX at HBX ⊢
    have X0 := As.mk (HBX.out.cell 0 _ rfl)
    have Y0 := As.mk (HBY.out.cell 0 _ rfl)
    have X1 := As.mk (HBX.out.cell 1 _ rfl)
    have Y1 := As.mk (HBY.out.cell 1 _ rfl)
    have X2 := As.mk (HBX.out.cell 2 _ rfl)
    have Y2 := As.mk (HBY.out.cell 2 _ rfl)
    have X3 := As.mk (HBX.out.cell 3 _ rfl)
    have Y3 := As.mk (HBY.out.cell 3 _ rfl)
    have X4 := As.mk (HBX.out.cell 4 _ rfl)
    have Y4 := As.mk (HBY.out.cell 4 _ rfl)
    have X5 := As.mk (HBX.out.cell 5 _ rfl)
    have Y5 := As.mk (HBY.out.cell 5 _ rfl)
    obtain ⟨TX, hTX⟩ : ∃ T, stepL kx px nx gx bx lx = T := ⟨_, rfl⟩
    obtain ⟨TY, hTY⟩ : ∃ T, stepL ky py ny gy bY ly = T := ⟨_, rfl⟩
    obtain ⟨d, hd⟩ : ∃ d, decide ((⟨kx, px, nx, gx, bx, lx⟩ : LStep) = ⟨ky, py, ny, gy, bY, ly⟩) = d := ⟨_, rfl⟩
    have hTD : (TX == TY) = d := by
      have h := apart HX4.out HY4.out HX3.out HY3.out
      rw [← hTX, ← hTY, ← hd]
      exact h
    have HTX := As.mk hTX
    have HTY := As.mk hTY
    have HD := As.mk hd
    clear hTX hTY hd
    refine wp_region_held_drew (S := (fun V : World => Below W3.heap.size W3 V)) (by kernel_rfl) ?_ (fun hHeld => ?_)
    · exact below_dr W3
    refine wpAnyH_take (i := 0) (oi := ?_) (v := ?_) (by simp only [List.getElem?_toArray, List.getElem?_cons_zero, List.getElem?_cons_succ]; rfl) (by kernel_rfl) (by kernel_rfl) (by kernel_rfl) (by exact fun _ _ _ h => h) (Or.inl ⟨by rfl, ?_⟩) (by assumption) ?_
    rotate_left
    · (intro w hSw; (try dsimp only at hSw); have x0 := cell_below hSw X0.out; have y0 := cell_below hSw Y0.out; have x1 := cell_below hSw X1.out; have y1 := cell_below hSw Y1.out; have x2 := cell_below hSw X2.out; have y2 := cell_below hSw Y2.out; have x3 := cell_below hSw X3.out; have y3 := cell_below hSw Y3.out; have x4 := cell_below hSw X4.out; have y4 := cell_below hSw Y4.out; have x5 := cell_below hSw X5.out; have y5 := cell_below hSw Y5.out; clear hSw; go_simp; first | done | with_reducible rfl)
    try simp only [Act.put, List.setIfInBounds_toArray, List.set_cons_zero, List.set_cons_succ]
    refine wpAnyH_take (i := 2) (oi := ?_) (v := ?_) (by simp only [List.getElem?_toArray, List.getElem?_cons_zero, List.getElem?_cons_succ]; rfl) (by kernel_rfl) (by kernel_rfl) (by kernel_rfl) (by exact fun _ _ _ h => h) (Or.inl ⟨by rfl, ?_⟩) (by assumption) ?_
    rotate_left
    · (intro w hSw; (try dsimp only at hSw); have x0 := cell_below hSw X0.out; have y0 := cell_below hSw Y0.out; have x1 := cell_below hSw X1.out; have y1 := cell_below hSw Y1.out; have x2 := cell_below hSw X2.out; have y2 := cell_below hSw Y2.out; have x3 := cell_below hSw X3.out; have y3 := cell_below hSw Y3.out; have x4 := cell_below hSw X4.out; have y4 := cell_below hSw Y4.out; have x5 := cell_below hSw X5.out; have y5 := cell_below hSw Y5.out; clear hSw; go_simp; first | done | with_reducible rfl)
    try simp only [Act.put, List.setIfInBounds_toArray, List.set_cons_zero, List.set_cons_succ]
    refine wpAnyH_take (i := 5) (oi := ?_) (v := ?_) (by simp only [List.getElem?_toArray, List.getElem?_cons_zero, List.getElem?_cons_succ]; rfl) (by kernel_rfl) (by kernel_rfl) (by kernel_rfl) (by exact fun _ _ _ h => h) (Or.inl ⟨by rfl, ?_⟩) (by assumption) ?_
    rotate_left
    · (intro w hSw; (try dsimp only at hSw); have x0 := cell_below hSw X0.out; have y0 := cell_below hSw Y0.out; have x1 := cell_below hSw X1.out; have y1 := cell_below hSw Y1.out; have x2 := cell_below hSw X2.out; have y2 := cell_below hSw Y2.out; have x3 := cell_below hSw X3.out; have y3 := cell_below hSw Y3.out; have x4 := cell_below hSw X4.out; have y4 := cell_below hSw Y4.out; have x5 := cell_below hSw X5.out; have y5 := cell_below hSw Y5.out; clear hSw; go_simp; first | done | with_reducible rfl)
    try simp only [Act.put, List.setIfInBounds_toArray, List.set_cons_zero, List.set_cons_succ]
    refine wpAnyH_take (i := 6) (oi := ?_) (v := ?_) (by simp only [List.getElem?_toArray, List.getElem?_cons_zero, List.getElem?_cons_succ]; rfl) (by kernel_rfl) (by kernel_rfl) (by kernel_rfl) (by exact fun _ _ _ h => h) (Or.inl ⟨by rfl, ?_⟩) (by assumption) ?_
    rotate_left
    · (intro w hSw; (try dsimp only at hSw); have x0 := cell_below hSw X0.out; have y0 := cell_below hSw Y0.out; have x1 := cell_below hSw X1.out; have y1 := cell_below hSw Y1.out; have x2 := cell_below hSw X2.out; have y2 := cell_below hSw Y2.out; have x3 := cell_below hSw X3.out; have y3 := cell_below hSw Y3.out; have x4 := cell_below hSw X4.out; have y4 := cell_below hSw Y4.out; have x5 := cell_below hSw X5.out; have y5 := cell_below hSw Y5.out; clear hSw; go_simp; first | done | with_reducible rfl)
    try simp only [Act.put, List.setIfInBounds_toArray, List.set_cons_zero, List.set_cons_succ]
    refine wpAnyH_ready (rs := [1]) (by kernel_rfl) (by simp) ?_
    refine AllReadyH.cons (o := ?_) (by simp only [List.getElem?_toArray, List.getElem?_cons_zero, List.getElem?_cons_succ]; rfl) (fun K hK => ?_) ?_
    · go_simp
      (with_reducible refine (step_as kx px nx gx bx lx HTX.out HX4.out _ _ _ (RdS.below HA1.out hHeld) (HA2.out.below hHeld) (HE.out.below hHeld)).mono ?_)
      rintro e w4 ⟨rfl, hb⟩
      have hS2 := hHeld.trans (hb.mono hHeld.size)
      clear hb
      dsimp only
      refine hK.out _ _ ?_ (fun hHeld2 => ?_)
      · exact hS2
      clear hK K hHeld
      have hHeld := hHeld2
      clear hHeld2
      try simp only [Act.put, List.setIfInBounds_toArray, List.set_cons_zero, List.set_cons_succ]
      refine wpAnyH_ready (rs := [3]) (by kernel_rfl) (by simp) ?_
      refine AllReadyH.cons (o := ?_) (by simp only [List.getElem?_toArray, List.getElem?_cons_zero, List.getElem?_cons_succ]; rfl) (fun K hK => ?_) ?_
      · go_simp
        (with_reducible refine (step_as ky py ny gy bY ly HTY.out HY4.out _ _ _ (RdS.below HC1.out hHeld) (HC2.out.below hHeld) (HE.out.below hHeld)).mono ?_)
        rintro e w5 ⟨rfl, hb⟩
        have hS2 := hHeld.trans (hb.mono hHeld.size)
        clear hb
        dsimp only
        refine hK.out _ _ ?_ (fun hHeld2 => ?_)
        · exact hS2
        clear hK K hHeld
        have hHeld := hHeld2
        clear hHeld2
        try simp only [Act.put, List.setIfInBounds_toArray, List.set_cons_zero, List.set_cons_succ]
        refine wpAnyH_take (i := 4) (oi := ?_) (v := ?_) (by simp only [List.getElem?_toArray, List.getElem?_cons_zero, List.getElem?_cons_succ]; rfl) (by kernel_rfl) (by kernel_rfl) (by kernel_rfl) (by exact fun _ _ _ h => h) (Or.inl ⟨by rfl, ?_⟩) (by assumption) ?_
        rotate_left
        · (intro w hSw; (try dsimp only at hSw); have x0 := cell_below hSw X0.out; have y0 := cell_below hSw Y0.out; have x1 := cell_below hSw X1.out; have y1 := cell_below hSw Y1.out; have x2 := cell_below hSw X2.out; have y2 := cell_below hSw Y2.out; have x3 := cell_below hSw X3.out; have y3 := cell_below hSw Y3.out; have x4 := cell_below hSw X4.out; have y4 := cell_below hSw Y4.out; have x5 := cell_below hSw X5.out; have y5 := cell_below hSw Y5.out; clear hSw; go_simp; first | done | with_reducible rfl)
        try simp only [Act.put, List.setIfInBounds_toArray, List.set_cons_zero, List.set_cons_succ]
        refine wpAnyH_ready (rs := [7]) (by kernel_rfl) (by simp) ?_
        refine AllReadyH.cons (o := ?_) (by simp only [List.getElem?_toArray, List.getElem?_cons_zero, List.getElem?_cons_succ]; rfl) (fun K hK => ?_) ?_
        · go_simp
          (with_reducible refine (same_as kx px nx gx bx lx ky py ny gy bY ly HD.out _ _ _ _ _ (RdS.below HA1.out hHeld) (HA2.out.below hHeld) (RdS.below HC1.out hHeld) (HC2.out.below hHeld)).mono ?_)
          rintro e w6 ⟨rfl, hb⟩
          have hS2 := hHeld.trans (hb.mono hHeld.size)
          clear hb
          dsimp only
          refine hK.out _ _ ?_ (fun hHeld2 => ?_)
          · exact hS2
          clear hK K hHeld
          have hHeld := hHeld2
          clear hHeld2
          try simp only [Act.put, List.setIfInBounds_toArray, List.set_cons_zero, List.set_cons_succ]
          refine wpAnyH_take (i := 8) (oi := ?_) (v := ?_) (by simp only [List.getElem?_toArray, List.getElem?_cons_zero, List.getElem?_cons_succ]; rfl) (by kernel_rfl) (by kernel_rfl) (by kernel_rfl) (by exact fun _ _ _ h => h) (Or.inl ⟨by rfl, ?_⟩) (by assumption) ?_
          rotate_left
          · (intro w hSw; (try dsimp only at hSw); have x0 := cell_below hSw X0.out; have y0 := cell_below hSw Y0.out; have x1 := cell_below hSw X1.out; have y1 := cell_below hSw Y1.out; have x2 := cell_below hSw X2.out; have y2 := cell_below hSw Y2.out; have x3 := cell_below hSw X3.out; have y3 := cell_below hSw Y3.out; have x4 := cell_below hSw X4.out; have y4 := cell_below hSw Y4.out; have x5 := cell_below hSw X5.out; have y5 := cell_below hSw Y5.out; clear hSw; go_simp; first | done | with_reducible rfl)
          try simp only [Act.put, List.setIfInBounds_toArray, List.set_cons_zero, List.set_cons_succ]
          refine wpAnyH_take (i := 9) (oi := ?_) (v := ?_) (by simp only [List.getElem?_toArray, List.getElem?_cons_zero, List.getElem?_cons_succ]; rfl) (by kernel_rfl) (by kernel_rfl) (by kernel_rfl) (by exact fun _ _ _ h => h) (Or.inl ⟨by rfl, ?_⟩) (by assumption) ?_
          rotate_left
          · (intro w hSw; (try dsimp only at hSw); have x0 := cell_below hSw X0.out; have y0 := cell_below hSw Y0.out; have x1 := cell_below hSw X1.out; have y1 := cell_below hSw Y1.out; have x2 := cell_below hSw X2.out; have y2 := cell_below hSw Y2.out; have x3 := cell_below hSw X3.out; have y3 := cell_below hSw Y3.out; have x4 := cell_below hSw X4.out; have y4 := cell_below hSw Y4.out; have x5 := cell_below hSw X5.out; have y5 := cell_below hSw Y5.out; clear hSw; go_simp; first | done | with_reducible rfl)
          try simp only [Act.put, List.setIfInBounds_toArray, List.set_cons_zero, List.set_cons_succ]
          refine wpAnyH_ready (rs := [10]) (by kernel_rfl) (by simp) ?_
          refine AllReadyH.cons (o := ?_) (by simp only [List.getElem?_toArray, List.getElem?_cons_zero, List.getElem?_cons_succ]; rfl) (fun K hK => ?_) ?_
          · go_simp
            (with_reducible refine (awake_as _ (HE.out.below hHeld)).mono ?_)
            rintro e w7 ⟨rfl, hb⟩
            have hS2 := hHeld.trans (hb.mono hHeld.size)
            clear hb
            dsimp only
            refine hK.out _ _ ?_ (fun hHeld2 => ?_)
            · exact hS2
            clear hK K hHeld
            have hHeld := hHeld2
            clear hHeld2
            try simp only [Act.put, List.setIfInBounds_toArray, List.set_cons_zero, List.set_cons_succ]
            refine wpAnyH_take (i := 11) (oi := ?_) (v := ?_) (by simp only [List.getElem?_toArray, List.getElem?_cons_zero, List.getElem?_cons_succ]; rfl) (by kernel_rfl) (by kernel_rfl) (by kernel_rfl) (by exact fun _ _ _ h => h) (Or.inl ⟨by rfl, ?_⟩) (by assumption) ?_
            rotate_left
            · (intro w hSw; (try dsimp only at hSw); have x0 := cell_below hSw X0.out; have y0 := cell_below hSw Y0.out; have x1 := cell_below hSw X1.out; have y1 := cell_below hSw Y1.out; have x2 := cell_below hSw X2.out; have y2 := cell_below hSw Y2.out; have x3 := cell_below hSw X3.out; have y3 := cell_below hSw Y3.out; have x4 := cell_below hSw X4.out; have y4 := cell_below hSw Y4.out; have x5 := cell_below hSw X5.out; have y5 := cell_below hSw Y5.out; clear hSw; go_simp; first | done | with_reducible rfl)
            try simp only [Act.put, List.setIfInBounds_toArray, List.set_cons_zero, List.set_cons_succ]
            refine wpAnyH_take (i := 12) (oi := ?_) (v := ?_) (by simp only [List.getElem?_toArray, List.getElem?_cons_zero, List.getElem?_cons_succ]; rfl) (by kernel_rfl) (by kernel_rfl) (by kernel_rfl) (by exact fun _ _ _ h => h) (Or.inl ⟨by rfl, ?_⟩) (by assumption) ?_
            rotate_left
            · (intro w hSw; (try dsimp only at hSw); have x0 := cell_below hSw X0.out; have y0 := cell_below hSw Y0.out; have x1 := cell_below hSw X1.out; have y1 := cell_below hSw Y1.out; have x2 := cell_below hSw X2.out; have y2 := cell_below hSw Y2.out; have x3 := cell_below hSw X3.out; have y3 := cell_below hSw Y3.out; have x4 := cell_below hSw X4.out; have y4 := cell_below hSw Y4.out; have x5 := cell_below hSw X5.out; have y5 := cell_below hSw Y5.out; clear hSw; go_simp; first | done | with_reducible rfl)
            try simp only [Act.put, List.setIfInBounds_toArray, List.set_cons_zero, List.set_cons_succ]
            refine wpAnyH_done (by kernel_rfl) ?_ _
            have HFIN := As.mk (HBW.out.trans (hHeld.mono HBW.out.size))
            clear hHeld
            go_wp2
            go_ret
            exact ⟨rfl, HFIN.out⟩
          exact AllReadyH.nil
        exact AllReadyH.nil
      exact AllReadyH.nil
    exact AllReadyH.nil
end Go.Proofs.YtodcbcpjlhlakaaDoor.W
