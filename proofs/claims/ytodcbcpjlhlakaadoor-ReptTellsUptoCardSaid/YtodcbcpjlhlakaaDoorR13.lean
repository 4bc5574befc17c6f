/- What is told: bytes of hex. -/
import Derived.Test.YtodcbcpjlhlakaaDoorR12
set_option linter.unusedVariables false
set_option linter.unusedSimpArgs false
namespace Go.Proofs.YtodcbcpjlhlakaaDoor.W
open Go.RowKit Go.Proofs.YtodcbcpjlhlakaaDoor.B Go.Proofs

def digL : List UInt8 := [48, 49, 50, 51, 52, 53, 54, 55, 56, 57, 97, 98, 99, 100, 101, 102]
/-- What a digit is worth; what is none: nothing. -/
def nib (x : UInt8) : Nat := (Lib.indexByte digL x).toNat
theorem nib_facts (x : UInt8) : -1 ≤ Lib.indexByte digL x ∧ Lib.indexByte digL x ≤ 15 := by
  have h : ∀ n : Nat, n < 256 → -1 ≤ Lib.indexByte digL (UInt8.ofNat n) ∧ Lib.indexByte digL (UInt8.ofNat n) ≤ 15 := by decide +kernel
  have := h x.toNat (by have := x.toNat_lt; omega)
  rwa [UInt8.ofNat_toNat] at this
theorem nib_lt (x : UInt8) : nib x < 16 := by have := nib_facts x; unfold nib; omega
set_option maxRecDepth 100000 in
theorem nib_any (x : UInt8) (w : World) : Calls Tryd.prog 68 #[.int .u8 (x.toNat : Int)] w fun e w' => e = .returned (.int .u8 (nib x : Int)) ∧ w' = w := by
  obtain ⟨J, hJ⟩ : ∃ J, Lib.indexByte digL x = J := ⟨_, rfl⟩
  have hf := nib_facts x
  rw [hJ] at hf
  have HN : As (max J 0 = (nib x : Int)) := ⟨by unfold nib; rw [hJ]; omega⟩
  have HJ : As (Lib.indexByte (⟨#[48, 49, 50, 51, 52, 53, 54, 55, 56, 57, 97, 98, 99, 100, 101, 102]⟩ : ByteArray).data.toList ((x.toNat : Int)).toNat.toUInt8 = J) := ⟨by
    rw [← hJ]
    have : ((x.toNat : Int)).toNat.toUInt8 = x := by simp
    rw [this]
    rfl⟩
  have h0 := hf.1
  have h1 := hf.2
  clear hf hJ
  go_enter Tryd.func68, Tryd.ntmps68
  go_wp2_with (go_at_call 69; (with_reducible refine (Tryd.strings_IndexByte _ _ _).mono ?_); rintro e w1 ⟨he, rfl⟩; rw [HJ.out] at he; subst he)
  go_ret
  refine ⟨?_, rfl⟩
  rw [← HN.out]
  rfl
/-- The bytes of hex; a digit that is left over is not taken. -/
def unhexL : List UInt8 → List UInt8
  | a :: b :: r => UInt8.ofNat (16 * nib a + nib b) :: unhexL r
  | _ => []
theorem u8_or16 (a b : Nat) (ha : a < 16) (hb : b < 16) : bits .or .u8 (16 * (a : Int)) (b : Int) = 16 * (a : Int) + (b : Int) := by
  have h : ∀ a : Nat, a < 16 → ∀ b : Nat, b < 16 → bits .or .u8 (16 * (a : Int)) (b : Int) = 16 * (a : Int) + (b : Int) := by decide +kernel
  exact h a ha b hb
set_option maxHeartbeats 2000000 in
set_option maxRecDepth 100000 in
theorem unhex_any (s : List UInt8) (hs : s.length ≤ 4000000) (w : World) :
    Calls Tryd.prog 53 #[.string ⟨s.toArray⟩] w fun e w' => ∃ r, e = .returned r ∧ OwB w' w.heap.size 5 r (unhexL s) ∧ Below w.heap.size w w' := by
  have hl : (s.length : Int) ≤ 4000000 := by omega
  clear hs
  go_enter Tryd.func53, Tryd.ntmps53
  go_wp2
  go_loopw [3, 5] (fun v3 v5 wr => ∃ (K : Nat) (D : List UInt8), v5 = .int .i64 (K : Int) ∧ (K : Int) ≤ s.length ∧ As (OwB wr w.heap.size 5 v3 D) ∧ As (Below w.heap.size w wr) ∧ As (D ++ unhexL (s.drop K) = unhexL s) ∧ As (D.length ≤ K)) (fun _ v5 _ => s.length - (intOf v5).toNat)
  case atStart => exact ⟨0, [], rfl, by omega, ⟨OwS.nil _ _ _ _⟩, ⟨Below.refl _ _⟩, ⟨rfl⟩, ⟨by decide⟩⟩
  case round =>
    obtain ⟨K, D, rfl, hk, HO, HB, HD, HDL0⟩ := hrel
    have HDL : As (D.length ≤ 4000000) := ⟨by have := HDL0.out; omega⟩
    by_cases hlt : (K : Int) + 1 < s.length
    · obtain ⟨a, ha⟩ : ∃ a, s[K]? = some a := ⟨_, List.getElem?_eq_getElem (by omega)⟩
      obtain ⟨b, hb⟩ : ∃ b, s[K + 1]? = some b := ⟨_, List.getElem?_eq_getElem (by omega)⟩
      have hdrop : s.drop K = a :: b :: s.drop (K + 2) := by
        rw [List.drop_eq_getElem_cons (by omega), List.drop_eq_getElem_cons (by omega)]
        rw [(List.getElem?_eq_some_iff.1 ha).2, (List.getElem?_eq_some_iff.1 hb).2]
      have hga : ∀ h, (⟨s.toArray⟩ : ByteArray)[K]'h = a := fun h => (List.getElem?_eq_some_iff.1 ha).2
      have hgb : ∀ h, (⟨s.toArray⟩ : ByteArray)[K + 1]'h = b := fun h => (List.getElem?_eq_some_iff.1 hb).2
      have hna := nib_lt a
      have hnb := nib_lt b
      obtain ⟨y, hy⟩ : ∃ y, y = UInt8.ofNat (16 * nib a + nib b) := ⟨_, rfl⟩
      have HD2 : As ((D ++ [y]) ++ unhexL (s.drop (K + 2)) = unhexL s) := ⟨by rw [← HD.out, hdrop, hy, unhexL]; simp⟩
      have HDL2 : As ((D ++ [y]).length ≤ K + 2) := ⟨by have := HDL0.out; rw [List.length_append]; show D.length + 1 ≤ _; omega⟩
      have HYN : As (16 * ((nib a : Nat) : Int) + ((nib b : Nat) : Int) = (y.toNat : Int)) := ⟨by rw [hy, u8_ofNat]; omega⟩
      have HOR := As.mk (u8_or16 (nib a) (nib b) hna hnb)
      obtain ⟨na, hnae⟩ : ∃ n, n = nib a := ⟨_, rfl⟩
      obtain ⟨nb, hnbe⟩ : ∃ n, n = nib b := ⟨_, rfl⟩
      have HNA := As.mk hnae
      have HNB := As.mk hnbe
      rw [← hnae, ← hnbe] at HYN HOR
      have HY := HYN
      have hor := HOR.out
      have hna16 : (na : Int) < 16 := by omega
      have hsh : IntKind.u8.wrap ((na : Int) * 16) = 16 * (na : Int) := by rw [IntKind.wrap_u8]; omega
      have hnb16 : (nb : Int) < 16 := by omega
      have hk0 : (0 : Int) ≤ (K : Int) + 1 := by omega
      have hkl : K < s.length := by omega
      have hkl2 : K + 1 < s.length := by omega
      have hwk : IntKind.i64.wrap ((K : Int) + 1) = (K : Int) + 1 := IntWalk.i64_in _ (by omega)
      clear ha hb hdrop hy hna hnb hnae hnbe
      go_upto_region 6 with fail
      refine wp_region_any (by kernel_rfl) ?_
      try (change wpAny _ _ _ _ _ _ _ (World.drew _))
      refine wpAny_take (i := 0) (oi := ?_) (v := ?_) (by simp only [List.getElem?_toArray, List.getElem?_cons_zero, List.getElem?_cons_succ]; rfl) (by kernel_rfl) (by kernel_rfl) (by kernel_rfl) (by exact fun _ _ _ h => h) (Or.inl ⟨by rfl, ?_⟩) ?_
      rotate_left
      · (intro w; go_simp; first | done | with_reducible rfl)
      try simp only [Act.put, List.setIfInBounds_toArray, List.set_cons_zero, List.set_cons_succ]
      refine wpAny_take (i := 1) (oi := ?_) (v := ?_) (by simp only [List.getElem?_toArray, List.getElem?_cons_zero, List.getElem?_cons_succ]; rfl) (by kernel_rfl) (by kernel_rfl) (by kernel_rfl) (by exact fun _ _ _ h => h) (Or.inl ⟨by rfl, ?_⟩) ?_
      rotate_left
      · (intro w; go_simp; first | done | with_reducible rfl)
      try simp only [Act.put, List.setIfInBounds_toArray, List.set_cons_zero, List.set_cons_succ]
      refine wpAny_take (i := 2) (oi := ?_) (v := ?_) (by simp only [List.getElem?_toArray, List.getElem?_cons_zero, List.getElem?_cons_succ]; rfl) (by kernel_rfl) (by kernel_rfl) (by kernel_rfl) (by exact fun _ _ _ h => h) (Or.inl ⟨by rfl, ?_⟩) ?_
      rotate_left
      · (intro w; go_simp; first | done | with_reducible rfl)
      try simp only [Act.put, List.setIfInBounds_toArray, List.set_cons_zero, List.set_cons_succ]
      refine wpAny_take (i := 3) (oi := ?_) (v := ?_) (by simp only [List.getElem?_toArray, List.getElem?_cons_zero, List.getElem?_cons_succ]; rfl) (by kernel_rfl) (by kernel_rfl) (by kernel_rfl) (by exact fun _ _ _ h => h) (Or.inl ⟨by rfl, ?_⟩) ?_
      rotate_left
      · (intro w; go_simp; first | done | with_reducible rfl)
      try simp only [Act.put, List.setIfInBounds_toArray, List.set_cons_zero, List.set_cons_succ]
      refine wpAny_take (i := 4) (oi := ?_) (v := ?_) (by simp only [List.getElem?_toArray, List.getElem?_cons_zero, List.getElem?_cons_succ]; rfl) (by kernel_rfl) (by kernel_rfl) (by kernel_rfl) (by exact fun _ _ _ h => h) (Or.inl ⟨by rfl, ?_⟩) ?_
      rotate_left
      · (intro w; go_simp; first | done | with_reducible rfl)
      try simp only [Act.put, List.setIfInBounds_toArray, List.set_cons_zero, List.set_cons_succ]
      refine wpAny_take (i := 7) (oi := ?_) (v := ?_) (by simp only [List.getElem?_toArray, List.getElem?_cons_zero, List.getElem?_cons_succ]; rfl) (by kernel_rfl) (by kernel_rfl) (by kernel_rfl) (by exact fun _ _ _ h => h) (Or.inl ⟨by rfl, ?_⟩) ?_
      rotate_left
      · (intro w; go_simp; first | done | with_reducible rfl)
      try simp only [Act.put, List.setIfInBounds_toArray, List.set_cons_zero, List.set_cons_succ]
      refine wpAny_take (i := 8) (oi := ?_) (v := ?_) (by simp only [List.getElem?_toArray, List.getElem?_cons_zero, List.getElem?_cons_succ]; rfl) (by kernel_rfl) (by kernel_rfl) (by kernel_rfl) (by exact fun _ _ _ h => h) (Or.inl ⟨by rfl, ?_⟩) ?_
      rotate_left
      · (intro w; go_simp; first | done | with_reducible rfl)
      try simp only [Act.put, List.setIfInBounds_toArray, List.set_cons_zero, List.set_cons_succ]
      refine wpAny_take (i := 9) (oi := ?_) (v := ?_) (by simp only [List.getElem?_toArray, List.getElem?_cons_zero, List.getElem?_cons_succ]; rfl) (by kernel_rfl) (by kernel_rfl) (by kernel_rfl) (by exact fun _ _ _ h => h) (Or.inl ⟨by rfl, ?_⟩) ?_
      rotate_left
      · (intro w; go_simp; first | done | with_reducible rfl)
      try simp only [Act.put, List.setIfInBounds_toArray, List.set_cons_zero, List.set_cons_succ]
      refine wpAny_take (i := 10) (oi := ?_) (v := ?_) (by simp only [List.getElem?_toArray, List.getElem?_cons_zero, List.getElem?_cons_succ]; rfl) (by kernel_rfl) (by kernel_rfl) (by kernel_rfl) (by exact fun _ _ _ h => h) (Or.inl ⟨by rfl, ?_⟩) ?_
      rotate_left
      · (intro w; go_simp; first | done | with_reducible rfl)
      try simp only [Act.put, List.setIfInBounds_toArray, List.set_cons_zero, List.set_cons_succ]
      refine wpAny_take (i := 11) (oi := ?_) (v := ?_) (by simp only [List.getElem?_toArray, List.getElem?_cons_zero, List.getElem?_cons_succ]; rfl) (by kernel_rfl) (by kernel_rfl) (by kernel_rfl) (by exact fun _ _ _ h => h) (Or.inl ⟨by rfl, ?_⟩) ?_
      rotate_left
      · (intro w; go_simp; first | done | with_reducible rfl)
      try simp only [Act.put, List.setIfInBounds_toArray, List.set_cons_zero, List.set_cons_succ]
      refine wpAny_ready (rs := [5]) (by kernel_rfl) (by simp) ?_
      refine AllReady.cons (o := ?_) (by simp only [List.getElem?_toArray, List.getElem?_cons_zero, List.getElem?_cons_succ]; rfl) (fun K hK => ?_) ?_
      · go_simp
        (with_reducible refine (nib_any a _).mono ?_)
        rintro e w5 ⟨he, hb⟩
        rw [← HNA.out] at he
        subst he
        subst hb
        dsimp only
        refine hK _ _ ?_
        clear hK K
        try simp only [Act.put, List.setIfInBounds_toArray, List.set_cons_zero, List.set_cons_succ]
        refine wpAny_take (i := 6) (oi := ?_) (v := ?_) (by simp only [List.getElem?_toArray, List.getElem?_cons_zero, List.getElem?_cons_succ]; rfl) (by kernel_rfl) (by kernel_rfl) (by kernel_rfl) (by exact fun _ _ _ h => h) (Or.inl ⟨by rfl, ?_⟩) ?_
        rotate_left
        · (intro w; go_simp; first | done | with_reducible rfl)
        try simp only [Act.put, List.setIfInBounds_toArray, List.set_cons_zero, List.set_cons_succ]
        refine wpAny_ready (rs := [12]) (by kernel_rfl) (by simp) ?_
        refine AllReady.cons (o := ?_) (by simp only [List.getElem?_toArray, List.getElem?_cons_zero, List.getElem?_cons_succ]; rfl) (fun K hK => ?_) ?_
        · go_simp
          (with_reducible refine (nib_any b _).mono ?_)
          rintro e w6 ⟨he, hb⟩
          rw [← HNB.out] at he
          subst he
          subst hb
          dsimp only
          refine hK _ _ ?_
          clear hK K
          try simp only [Act.put, List.setIfInBounds_toArray, List.set_cons_zero, List.set_cons_succ]
          refine wpAny_take (i := 13) (oi := ?_) (v := ?_) (by simp only [List.getElem?_toArray, List.getElem?_cons_zero, List.getElem?_cons_succ]; rfl) (by kernel_rfl) (by kernel_rfl) (by kernel_rfl) (by exact fun _ _ _ h => h) (Or.inl ⟨by rfl, ?_⟩) ?_
          rotate_left
          · (intro w; go_simp; first | done | with_reducible rfl)
          try simp only [Act.put, List.setIfInBounds_toArray, List.set_cons_zero, List.set_cons_succ]
          refine wpAny_ready (rs := [14]) (by kernel_rfl) (by simp) ?_
          refine AllReady.cons (o := ?_) (by simp only [List.getElem?_toArray, List.getElem?_cons_zero, List.getElem?_cons_succ]; rfl) (fun K hK => ?_) ?_
          · go_simp
            have HBN : As (RdB (wr.drew.alloc (.cells #[.int .u8 (16 * (na : Int) + (nb : Int))] 5)) (.slice (some ⟨wr.drew.heap.size, 0, none⟩) 1 1) [y]) := ⟨RdB.one wr.drew 5 y _ HY.out⟩
            refine hK _ _ ?_
            clear hK K
            try simp only [Act.put, List.setIfInBounds_toArray, List.set_cons_zero, List.set_cons_succ]
            refine wpAny_ready (rs := [15]) (by kernel_rfl) (by simp) ?_
            refine AllReady.cons (o := ?_) (by simp only [List.getElem?_toArray, List.getElem?_cons_zero, List.getElem?_cons_succ]; rfl) (fun K hK => ?_) ?_
            · refine step_appB ?hgd (.tmp 13) (.tmp 27) ?ho ?hty w.heap.size u3 D ?hs (OwS.below (OwS.below HO.out (below_dr wr)) (below_al _ _)) (.slice (some ⟨wr.heap.size, 0, none⟩) 1 1) [y] ?hx HBN.out (by have := HDL.out; show D.length + 1 ≤ _; omega) (by have := HB.out.size; simp; omega) ?_
              case hgd => rfl
              case ho => rfl
              case hty => rfl
              case hs => rfl
              case hx => rfl
              intro v4 w4 ho hg
              have HB4 := As.mk ((((HB.out.drew).alloc (show w.heap.size ≤ wr.drew.heap.size from HB.out.size) _)).grown hg (by have := HB.out.size; simp; omega) (fun b hb => (OwS.lt HO.out b hb).1))
              have HO4 : As (OwB w4 w.heap.size 5 v4 (D ++ [y])) := ⟨ho⟩
              clear ho hg
              refine hK _ _ ?_
              clear hK K
              try simp only [Act.put, List.setIfInBounds_toArray, List.set_cons_zero, List.set_cons_succ]
              refine wpAny_take (i := 16) (oi := ?_) (v := ?_) (by simp only [List.getElem?_toArray, List.getElem?_cons_zero, List.getElem?_cons_succ]; rfl) (by kernel_rfl) (by kernel_rfl) (by kernel_rfl) (by exact fun _ _ _ h => h) (Or.inl ⟨by rfl, ?_⟩) ?_
              rotate_left
              · (intro w; go_simp; first | done | with_reducible rfl)
              try simp only [Act.put, List.setIfInBounds_toArray, List.set_cons_zero, List.set_cons_succ]
              refine wpAny_done (by kernel_rfl) ?_ _
              go_wp2
              go_roundw
              case rel => exact ⟨K + 2, D ++ [y], by go_num, by omega, HO4, HB4, HD2, HDL2⟩
              case measure => simp [intOf]; omega
            exact AllReady.nil
          exact AllReady.nil
        exact AllReady.nil
      exact AllReady.nil
    · have HF : As (D = unhexL s) := ⟨by
        have h := HD.out
        have hd : (s.drop K).length ≤ 1 := by rw [List.length_drop]; omega
        rcases hq : s.drop K with _ | ⟨q, _ | ⟨q2, r⟩⟩
        · rw [hq] at h; simpa [unhexL] using h
        · rw [hq] at h; simpa [unhexL] using h
        · rw [hq] at hd; simp at hd⟩
      go_wp2
      go_ret
      exact ⟨_, rfl, by rw [← HF.out]; exact HO.out, HB.out⟩
end Go.Proofs.YtodcbcpjlhlakaaDoor.W
