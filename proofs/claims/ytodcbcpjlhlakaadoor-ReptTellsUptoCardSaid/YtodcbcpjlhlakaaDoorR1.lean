/- What is told: numbers and bytes in hex. -/
import Derived.Test.YtodcbcpjlhlakaaDoorR0
import Derived.Test.YtodcbcpjlhlakaaDoorShelf
import Derived.Lib.SmallJoins
set_option linter.unusedVariables false
set_option linter.unusedSimpArgs false
namespace Go.Proofs.YtodcbcpjlhlakaaDoor.W
open Go.RowKit Go.Proofs.YtodcbcpjlhlakaaDoor.B Go.Proofs

/-- What the library's functions read of the package variables. -/
def Env (w : World) : Prop := Lib.TabIs Tryd.prog w "internal/strconv.uint64pow10" .u64 Lib.pow10Tab ∧ (∃ tp p, w.var? Tryd.prog "strconv.ErrSyntax" = some #[.iface tp p]) ∧ (∃ tp p, w.var? Tryd.prog "strconv.ErrRange" = some #[.iface tp p]) ∧
  ∃ m, w.cell? ⟨1, 0, none⟩ = some (.int .i64 m)
theorem Env.below {w w' : World} (h : Env w) (hb : Below w.heap.size w w') : Env w' := by
  obtain ⟨h1, ⟨t2, p2, h2⟩, ⟨t3, p3, h3⟩, m, h4⟩ := h
  exact ⟨Go.Joins.tab_stays (g := 0) (by kernel_rfl) h1 hb (Nat.le_refl _), ⟨t2, p2, Go.Joins.var_stays (g := 6) (by kernel_rfl) h2 hb (Nat.le_refl _)⟩, ⟨t3, p3, Go.Joins.var_stays (g := 7) (by kernel_rfl) h3 hb (Nat.le_refl _)⟩, m, cell_below hb h4⟩
theorem below_grow (w : World) (k : Nat) (os : Array Obj) : Below w.heap.size w (Go.Sort.grow (w.drewN k) os) :=
  ⟨rfl, rfl, rfl, by simp [Go.Sort.grow], fun j hj => by
    show (w.heap ++ os)[j]? = _
    rw [Array.getElem?_append_left hj]⟩
theorem u8_mask15 (x : UInt8) : bits .and .u8 (x.toNat : Int) 15 = ((x.toNat % 16 : Nat) : Int) := by
  have h : ∀ n : Nat, n < 256 → bits .and .u8 (n : Int) 15 = ((n % 16 : Nat) : Int) := by decide +kernel
  exact h _ (by have := x.toNat_lt; omega)
theorem num_any (n : Int) (h0 : -9223372036854775808 ≤ n) (h1 : n ≤ 9223372036854775807) (w : World) (he : Env w) :
    Calls Tryd.prog 16 #[.int .i64 n] w fun e w' => e = .returned (str (Lib.itoa n)) ∧ Below w.heap.size w w' := by
  have HE := As.mk he.1
  clear he
  go_enter Tryd.func16, Tryd.ntmps16
  go_wp2_with (go_at_call 33; (with_reducible refine (Tryd.strconv_Itoa n h0 h1 _ HE.out).mono ?_); rintro e w1 ⟨rfl, k, os, rfl⟩)
  go_ret
  exact ⟨rfl, below_grow w k os⟩
/-- A digit. -/
def dig (n : Nat) : UInt8 := if n < 10 then UInt8.ofNat (48 + n) else UInt8.ofNat (87 + n)
theorem dig_at (n : Nat) (h : n < (⟨#[48, 49, 50, 51, 52, 53, 54, 55, 56, 57, 97, 98, 99, 100, 101, 102]⟩ : ByteArray).size) : (⟨#[48, 49, 50, 51, 52, 53, 54, 55, 56, 57, 97, 98, 99, 100, 101, 102]⟩ : ByteArray)[n] = dig n := by
  have h16 : n < 16 := h
  revert h
  have : ∀ m, m < 16 → ∀ h, (⟨#[48, 49, 50, 51, 52, 53, 54, 55, 56, 57, 97, 98, 99, 100, 101, 102]⟩ : ByteArray)[m]'h = dig m := by decide
  exact this n h16
def hex2 (c : UInt8) : List UInt8 := [dig (c.toNat / 16), dig (c.toNat % 16)]
/-- Bytes in hex. -/
def hexL (b : List UInt8) : List UInt8 := if b = [] then [45] else b.flatMap hex2
theorem hex2_length (b : List UInt8) : (b.flatMap hex2).length = 2 * b.length := by
  induction b with
  | nil => rfl
  | cons x r ih => rw [List.flatMap_cons, List.length_append, ih]; simp [hex2]; omega
theorem hex2_snoc {b : List UInt8} {k : Nat} {x : UInt8} (h : b[k]? = some x) : (b.take (k + 1)).flatMap hex2 = (b.take k).flatMap hex2 ++ hex2 x := by
  obtain ⟨hk, hx⟩ := List.getElem?_eq_some_iff.1 h
  rw [List.take_succ_eq_append_getElem hk, List.flatMap_append, hx]
  simp
set_option maxHeartbeats 1000000 in
theorem hex_any (v : Value) (b : List UInt8) (w : World) (hr : RdB w v b) (hl : b.length ≤ 2000000) :
    Calls Tryd.prog 22 #[v] w fun e w' => e = .returned (str (hexL b)) ∧ Below w.heap.size w w' := by
  obtain ⟨A, c, rfl, -⟩ := RdB.form hr
  have HR := As.mk hr
  have HL : As ((b.length : Int) ≤ 2000000) := ⟨by omega⟩
  clear hr hl
  go_enter Tryd.func22, Tryd.ntmps22
  by_cases h0 : b = []
  · have HE : As (hexL b = [45]) := ⟨by unfold hexL; rw [if_pos h0]⟩
    subst h0
    go_wp2
    go_ret
    rw [HE.out]
    exact ⟨rfl, Below.refl _ _⟩
  · have hpos : (0 : Int) < (b.length : Int) := by have := List.length_pos_iff.2 h0; omega
    have hne : ((b.length : Int) == 0) = false := by rw [beq_eq_false_iff_ne]; omega
    have HE : As (hexL b = b.flatMap hex2) := ⟨by unfold hexL; rw [if_neg h0]⟩
    have hl := HL.out
    clear h0
    go_wp2
    go_loopw [3, 11] (fun v3 v11 wr => ∃ k : Nat, v11 = .int .i64 (k : Int) ∧ (k : Int) ≤ b.length ∧ As (OwB wr w.heap.size 5 v3 ((b.take k).flatMap hex2)) ∧ As (Below w.heap.size w wr)) (fun _ v11 _ => b.length - (intOf v11).toNat)
    case atStart => exact ⟨0, rfl, by omega, ⟨OwS.nil _ _ _ _⟩, ⟨Below.refl _ _⟩⟩
    case round =>
      obtain ⟨k, rfl, hk, HO, HB⟩ := hrel
      by_cases hlt : (k : Int) < b.length
      · obtain ⟨ad, rfl, hcell⟩ := RdB.at (HR.out.below HB.out) k (by omega)
        obtain ⟨x, hx⟩ : ∃ x, b[k]? = some x := ⟨_, List.getElem?_eq_getElem (by omega)⟩
        have hxx : b.getD k 0 = x := by rw [List.getD_eq_getElem?_getD, hx]; rfl
        rw [hxx] at hcell
        have HX : As ((b.take (k + 1)).flatMap hex2 = (b.take k).flatMap hex2 ++ hex2 x) := ⟨hex2_snoc hx⟩
        have HLN : As (((b.take k).flatMap hex2).length ≤ 4000000) := ⟨by rw [hex2_length, List.length_take]; omega⟩
        clear hx hxx
        have hx8 := x.toNat_lt
        obtain ⟨p, hp⟩ : ∃ p : Nat, p = x.toNat / 16 := ⟨_, rfl⟩
        obtain ⟨q, hq⟩ : ∃ q : Nat, q = x.toNat % 16 := ⟨_, rfl⟩
        have hp1 : (x.toNat : Int) / 16 = (p : Int) := by omega
        have hq1 : bits .and .u8 (x.toNat : Int) 15 = (q : Int) := by rw [u8_mask15]; omega
        have hp2 : (p : Int) < 16 := by omega
        have hq2 : (q : Int) < 16 := by omega
        have H2 : As (hex2 x = [dig p, dig q]) := ⟨by unfold hex2; rw [hp, hq]⟩
        have hdg := dig_at
        clear hp hq hx8
        go_upto_region 7 with fail
        refine wp_region_any (by kernel_rfl) ?_
        try (change wpAny _ _ _ _ _ _ _ (World.drew _))
        refine wpAny_take (i := 0) (oi := ?_) (v := ?_) (by simp only [List.getElem?_toArray, List.getElem?_cons_zero, List.getElem?_cons_succ]; rfl) (by kernel_rfl) (by kernel_rfl) (by kernel_rfl) (by exact fun _ _ _ h => h) (Or.inl ⟨by rfl, ?_⟩) ?_
        rotate_left
        · (intro w; go_simp; first | done | with_reducible rfl)
        try simp only [Act.put, List.setIfInBounds_toArray, List.set_cons_zero, List.set_cons_succ]
        refine wpAny_take (i := 1) (oi := ?_) (v := ?_) (by simp only [List.getElem?_toArray, List.getElem?_cons_zero, List.getElem?_cons_succ]; rfl) (by kernel_rfl) (by kernel_rfl) (by kernel_rfl) (by exact fun _ _ _ h => h) (Or.inl ⟨by rfl, ?_⟩) ?_
        rotate_left
        · (intro w; go_simp; first | done | with_reducible rfl)
        try simp only [Act.put, List.setIfInBounds_toArray, List.set_cons_zero, List.set_cons_succ]
        refine wpAny_take (i := 2) (oi := ?_) (v := ?_) (by simp only [List.getElem?_toArray, List.getElem?_cons_zero, List.getElem?_cons_succ]; rfl) (by kernel_rfl) (by kernel_rfl) (by kernel_rfl) (by exact fun _ _ _ h => h) (Or.inl ⟨by rfl, ?_⟩) ?_
        rotate_left
        · (intro w; go_simp; first | done | with_reducible rfl)
        try simp only [Act.put, List.setIfInBounds_toArray, List.set_cons_zero, List.set_cons_succ]
        refine wpAny_take (i := 3) (oi := ?_) (v := ?_) (by simp only [List.getElem?_toArray, List.getElem?_cons_zero, List.getElem?_cons_succ]; rfl) (by kernel_rfl) (by kernel_rfl) (by kernel_rfl) (by exact fun _ _ _ h => h) (Or.inl ⟨by rfl, ?_⟩) ?_
        rotate_left
        · (intro w; go_simp; first | done | with_reducible rfl)
        try simp only [Act.put, List.setIfInBounds_toArray, List.set_cons_zero, List.set_cons_succ]
        refine wpAny_take (i := 4) (oi := ?_) (v := ?_) (by simp only [List.getElem?_toArray, List.getElem?_cons_zero, List.getElem?_cons_succ]; rfl) (by kernel_rfl) (by kernel_rfl) (by kernel_rfl) (by exact fun _ _ _ h => h) (Or.inl ⟨by rfl, ?_⟩) ?_
        rotate_left
        · (intro w; go_simp; first | done | with_reducible rfl)
        try simp only [Act.put, List.setIfInBounds_toArray, List.set_cons_zero, List.set_cons_succ]
        refine wpAny_take (i := 5) (oi := ?_) (v := ?_) (by simp only [List.getElem?_toArray, List.getElem?_cons_zero, List.getElem?_cons_succ]; rfl) (by kernel_rfl) (by kernel_rfl) (by kernel_rfl) (by exact fun _ _ _ h => h) (Or.inl ⟨by rfl, ?_⟩) ?_
        rotate_left
        · (intro w; go_simp; first | done | with_reducible rfl)
        try simp only [Act.put, List.setIfInBounds_toArray, List.set_cons_zero, List.set_cons_succ]
        refine wpAny_take (i := 6) (oi := ?_) (v := ?_) (by simp only [List.getElem?_toArray, List.getElem?_cons_zero, List.getElem?_cons_succ]; rfl) (by kernel_rfl) (by kernel_rfl) (by kernel_rfl) (by exact fun _ _ _ h => h) (Or.inl ⟨by rfl, ?_⟩) ?_
        rotate_left
        · (intro w; go_simp; first | done | with_reducible rfl)
        try simp only [Act.put, List.setIfInBounds_toArray, List.set_cons_zero, List.set_cons_succ]
        refine wpAny_ready (rs := [7]) (by kernel_rfl) (by simp) ?_
        refine AllReady.cons (o := ?_) (by simp only [List.getElem?_toArray, List.getElem?_cons_zero, List.getElem?_cons_succ]; rfl) (fun K hK => ?_) ?_
        · go_simp
          have HBN := As.mk (OwB.two wr.drew w.heap.size HB.out.size (dig p) (dig q))
          refine hK _ _ ?_
          clear hK K
          try simp only [Act.put, List.setIfInBounds_toArray, List.set_cons_zero, List.set_cons_succ]
          refine wpAny_ready (rs := [8]) (by kernel_rfl) (by simp) ?_
          refine AllReady.cons (o := ?_) (by simp only [List.getElem?_toArray, List.getElem?_cons_zero, List.getElem?_cons_succ]; rfl) (fun K hK => ?_) ?_
          · refine step_appB ?hgd (.tmp 15) (.tmp 22) ?ho ?hty w.heap.size u3 ((b.take k).flatMap hex2) ?hs (OwS.below (OwS.below HO.out (below_dr wr)) (below_al _ _)) (.slice (some ⟨wr.heap.size, 0, none⟩) 2 2) [dig p, dig q] ?hx HBN.out.rd (by have := HLN.out; show ((b.take k).flatMap hex2).length + 2 ≤ _; omega) (by have := HB.out.size; simp; omega) ?_
            case hgd => rfl
            case ho => rfl
            case hty => rfl
            case hs => rfl
            case hx => rfl
            intro v4 w4 ho hg
            have HB4 := As.mk ((((HB.out.drew).alloc (show w.heap.size ≤ wr.drew.heap.size from HB.out.size) _)).grown hg (by have := HB.out.size; simp; omega) (fun b hb => (OwS.lt HO.out b hb).1))
            have HO4 : As (OwB w4 w.heap.size 5 v4 ((b.take (k + 1)).flatMap hex2)) := ⟨by rw [HX.out, H2.out]; exact ho⟩
            clear ho hg
            refine hK _ _ ?_
            clear hK K
            try simp only [Act.put, List.setIfInBounds_toArray, List.set_cons_zero, List.set_cons_succ]
            refine wpAny_take (i := 9) (oi := ?_) (v := ?_) (by simp only [List.getElem?_toArray, List.getElem?_cons_zero, List.getElem?_cons_succ]; rfl) (by kernel_rfl) (by kernel_rfl) (by kernel_rfl) (by exact fun _ _ _ h => h) (Or.inl ⟨by rfl, ?_⟩) ?_
            rotate_left
            · (intro w; go_simp; first | done | with_reducible rfl)
            try simp only [Act.put, List.setIfInBounds_toArray, List.set_cons_zero, List.set_cons_succ]
            refine wpAny_done (by kernel_rfl) ?_ _
            go_wp2
            go_roundw
            case rel => exact ⟨k + 1, by go_num, by omega, HO4, HB4⟩
            case measure => simp [intOf]; omega
          exact AllReady.nil
        exact AllReady.nil
      · have hkN : k = b.length := by omega
        have HF : As ((b.take k).flatMap hex2 = hexL b) := ⟨by rw [hkN, List.take_length, HE.out]⟩
        have HRD := As.mk HO.out.rd
        rw [HF.out] at HRD
        clear hkN
        go_wp2_with ((with_reducible refine wpList_str (o := ⟨some 26, _, _, _, _, _⟩) ?hgd (.tmp 25) 29 9 5 rfl Tryd.underlying29 Tryd.underlying5 Tryd.underlying9 u3 rfl (hexL b) HRD.out ?_); (case hgd => first | exact .inl rfl | exact .inr rfl))
        go_ret
        exact ⟨rfl, HB.out⟩
end Go.Proofs.YtodcbcpjlhlakaaDoor.W
