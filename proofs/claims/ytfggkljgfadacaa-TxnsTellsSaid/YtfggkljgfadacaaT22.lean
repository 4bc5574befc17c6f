/- Script: a script of a kind, by a number. -/
import Derived.Test.YtfggkljgfadacaaT21
import Derived.Lib.SlBytesConst
set_option linter.unusedVariables false
set_option linter.unusedSimpArgs false
namespace Go.Proofs.Ytfggkljgfadacaa.W
open Go.RowKit Go.Proofs.Ytfggkljgfadacaa.B Go.Proofs

/-- A whole number's lowest byte. -/
def u8i (x : Int) : UInt8 := UInt8.ofNat (x % 256).toNat
theorem u8i_val (x : Int) : ((u8i x).toNat : Int) = x % 256 := by
  unfold u8i
  rw [u8_ofNat]
  omega
theorem owB_lit (w : World) (n : Nat) (cs : Array Value) (bs : List UInt8) (h : cs.toList = bs.map u8v) (hn : bs.length = n) (hb : n ≤ maxLen := by decide) : OwB (w.alloc (.cells cs 5)) w.heap.size 5 (.slice (some ⟨w.heap.size, 0, none⟩) n n) bs := by
  have hs : cs.size = n * 1 := by rw [← Array.length_toList, h, List.length_map, hn, Nat.mul_one]
  have := OwS.lit w w.heap.size 5 1 n cs (Nat.le_refl _) hb hs
  rw [h] at this
  unfold OwB
  rw [hn]
  exact this
def scriptB (n : Int) : List UInt8 :=
  if n % 8 = 0 then [81, 2, 78, 115]
  else if n % 8 = 1 ∨ n % 8 = 2 then [0, 20] ++ List.replicate 20 0
  else if n % 8 = 3 then [0, 32] ++ List.replicate 32 0
  else if n % 8 = 4 ∨ n % 8 = 5 then [81, 32, u8i (n / 8)] ++ List.replicate 31 0
  else if n % 8 = 6 then [106] ++ List.replicate (n / 8 % 32).toNat 0
  else [u8i (n / 8)]
set_option maxHeartbeats 1000000 in
set_option maxRecDepth 100000 in
theorem script_any (n : Int) (w : World) : Calls Try.prog 42 #[.int .i64 n] w fun e w' => ∃ r, e = .returned r ∧ OwC w' w.heap.size r (scriptB n) ∧ Below w.heap.size w w' := by
  obtain ⟨c, hc⟩ : ∃ c, bits .and .i64 n 7 = c := ⟨_, rfl⟩
  have hc' : c = n % 8 := by rw [← hc]; exact i64_mask n 7 3 (by decide) (by decide)
  have h0 : 0 ≤ c := by omega
  have h8 : c ≤ 7 := by omega
  have HC := As.mk hc'
  clear hc'
  have kc := fun (w : World) (C : Array Value) (n c : Nat) => Go.Lib.run_convert_bytes_const (P := Try.prog) w 24 5 C n c Try.underlying24 Try.underlying5
  rcases (show c = 0 ∨ c = 1 ∨ c = 2 ∨ c = 3 ∨ c = 4 ∨ c = 5 ∨ c = 6 ∨ c = 7 by omega) with rfl | rfl | rfl | rfl | rfl | rfl | rfl | rfl
  · have HE : As (scriptB n = [81, 2, 78, 115]) := ⟨by unfold scriptB; rw [if_pos HC.out.symm]⟩
    go_enter Try.func42, Try.ntmps42
    go_wp2
    go_ret
    refine ⟨_, rfl, ?_, (Below.refl _ _).alloc (Nat.le_refl _) _⟩
    rw [HE.out]
    exact .inr ⟨w.heap.size, rfl, Nat.le_refl _, by decide, heap_alloc_last w _⟩
  · have HE : As (scriptB n = [0, 20] ++ List.replicate 20 0) := ⟨by unfold scriptB; rw [if_neg (by have := HC.out; omega), if_pos (by have := HC.out; omega)]⟩
    have HO : As (OwB (w.alloc (.cells #[.int .u8 0, .int .u8 20] 5)) w.heap.size 5 (.slice (some ⟨w.heap.size, 0, none⟩) 2 2) [0, 20]) := ⟨owB_lit w 2 #[.int .u8 0, .int .u8 20] [0, 20] (by simp [u8v, u8i_val]) rfl⟩
    clear h0 h8
    go_enter Try.func42, Try.ntmps42
    go_wp2_with (at_builtin; refine wpList_appMake w.heap.size rfl (.tmp 12) (.const (.int .i64 20)) 24 3 5 rfl Try.underlying24 Try.underlying3 info5 20 rfl rfl (bs := [0, 20]) rfl HO.out (by omega) (by simp) ?_; intro v' w' ho hg; have HR := As.mk ho; have HG := As.mk hg; clear ho hg)
    go_ret
    refine ⟨_, rfl, ?_, (below_al w _).grown HG.out (by simp) (fun k hk => by injection hk with hk; omega)⟩
    rw [HE.out]
    exact .inl HR.out
  · have HE : As (scriptB n = [0, 20] ++ List.replicate 20 0) := ⟨by unfold scriptB; rw [if_neg (by have := HC.out; omega), if_pos (by have := HC.out; omega)]⟩
    have HO : As (OwB (w.alloc (.cells #[.int .u8 0, .int .u8 20] 5)) w.heap.size 5 (.slice (some ⟨w.heap.size, 0, none⟩) 2 2) [0, 20]) := ⟨owB_lit w 2 #[.int .u8 0, .int .u8 20] [0, 20] (by simp [u8v, u8i_val]) rfl⟩
    clear h0 h8
    go_enter Try.func42, Try.ntmps42
    go_wp2_with (at_builtin; refine wpList_appMake w.heap.size rfl (.tmp 12) (.const (.int .i64 20)) 24 3 5 rfl Try.underlying24 Try.underlying3 info5 20 rfl rfl (bs := [0, 20]) rfl HO.out (by omega) (by simp) ?_; intro v' w' ho hg; have HR := As.mk ho; have HG := As.mk hg; clear ho hg)
    go_ret
    refine ⟨_, rfl, ?_, (below_al w _).grown HG.out (by simp) (fun k hk => by injection hk with hk; omega)⟩
    rw [HE.out]
    exact .inl HR.out
  · have HE : As (scriptB n = [0, 32] ++ List.replicate 32 0) := ⟨by unfold scriptB; rw [if_neg (by have := HC.out; omega), if_neg (by have := HC.out; omega), if_pos (by have := HC.out; omega)]⟩
    have HO : As (OwB (w.alloc (.cells #[.int .u8 0, .int .u8 32] 5)) w.heap.size 5 (.slice (some ⟨w.heap.size, 0, none⟩) 2 2) [0, 32]) := ⟨owB_lit w 2 #[.int .u8 0, .int .u8 32] [0, 32] (by simp [u8v, u8i_val]) rfl⟩
    clear h0 h8
    go_enter Try.func42, Try.ntmps42
    go_wp2_with (at_builtin; refine wpList_appMake w.heap.size rfl (.tmp 16) (.const (.int .i64 32)) 24 3 5 rfl Try.underlying24 Try.underlying3 info5 32 rfl rfl (bs := [0, 32]) rfl HO.out (by omega) (by simp) ?_; intro v' w' ho hg; have HR := As.mk ho; have HG := As.mk hg; clear ho hg)
    go_ret
    refine ⟨_, rfl, ?_, (below_al w _).grown HG.out (by simp) (fun k hk => by injection hk with hk; omega)⟩
    rw [HE.out]
    exact .inl HR.out
  · have HE : As (scriptB n = [81, 32, u8i (n / 8)] ++ List.replicate 31 0) := ⟨by unfold scriptB; rw [if_neg (by have := HC.out; omega), if_neg (by have := HC.out; omega), if_neg (by have := HC.out; omega), if_pos (by have := HC.out; omega)]⟩
    have HO : As (OwB (w.alloc (.cells #[.int .u8 81, .int .u8 32, .int .u8 (n / 8 % 256)] 5)) w.heap.size 5 (.slice (some ⟨w.heap.size, 0, none⟩) 3 3) [81, 32, u8i (n / 8)]) := ⟨owB_lit w 3 #[.int .u8 81, .int .u8 32, .int .u8 (n / 8 % 256)] [81, 32, u8i (n / 8)] (by simp [u8v, u8i_val]) rfl⟩
    clear h0 h8
    go_enter Try.func42, Try.ntmps42
    go_wp2_with (at_builtin; refine wpList_appMake w.heap.size rfl (.tmp 24) (.const (.int .i64 31)) 24 3 5 rfl Try.underlying24 Try.underlying3 info5 31 rfl rfl (bs := [81, 32, u8i (n / 8)]) rfl HO.out (by omega) (by simp) ?_; intro v' w' ho hg; have HR := As.mk ho; have HG := As.mk hg; clear ho hg)
    go_ret
    refine ⟨_, rfl, ?_, (below_al w _).grown HG.out (by simp) (fun k hk => by injection hk with hk; omega)⟩
    rw [HE.out]
    exact .inl HR.out
  · have HE : As (scriptB n = [81, 32, u8i (n / 8)] ++ List.replicate 31 0) := ⟨by unfold scriptB; rw [if_neg (by have := HC.out; omega), if_neg (by have := HC.out; omega), if_neg (by have := HC.out; omega), if_pos (by have := HC.out; omega)]⟩
    have HO : As (OwB (w.alloc (.cells #[.int .u8 81, .int .u8 32, .int .u8 (n / 8 % 256)] 5)) w.heap.size 5 (.slice (some ⟨w.heap.size, 0, none⟩) 3 3) [81, 32, u8i (n / 8)]) := ⟨owB_lit w 3 #[.int .u8 81, .int .u8 32, .int .u8 (n / 8 % 256)] [81, 32, u8i (n / 8)] (by simp [u8v, u8i_val]) rfl⟩
    clear h0 h8
    go_enter Try.func42, Try.ntmps42
    go_wp2_with (at_builtin; refine wpList_appMake w.heap.size rfl (.tmp 24) (.const (.int .i64 31)) 24 3 5 rfl Try.underlying24 Try.underlying3 info5 31 rfl rfl (bs := [81, 32, u8i (n / 8)]) rfl HO.out (by omega) (by simp) ?_; intro v' w' ho hg; have HR := As.mk ho; have HG := As.mk hg; clear ho hg)
    go_ret
    refine ⟨_, rfl, ?_, (below_al w _).grown HG.out (by simp) (fun k hk => by injection hk with hk; omega)⟩
    rw [HE.out]
    exact .inl HR.out
  · have HE : As (scriptB n = [106] ++ List.replicate (n / 8 % 32).toNat 0) := ⟨by unfold scriptB; rw [if_neg (by have := HC.out; omega), if_neg (by have := HC.out; omega), if_neg (by have := HC.out; omega), if_neg (by have := HC.out; omega), if_pos (by have := HC.out; omega)]⟩
    have HO : As (OwB (w.alloc (.cells #[.int .u8 106] 5)) w.heap.size 5 (.slice (some ⟨w.heap.size, 0, none⟩) 1 1) [106]) := ⟨owB_lit w 1 #[.int .u8 106] [106] (by simp [u8v, u8i_val]) rfl⟩
    obtain ⟨K, hK⟩ : ∃ K : Nat, K = (n / 8 % 32).toNat := ⟨_, rfl⟩
    have hk1 : bits .and .i64 (n / 8) 31 = (K : Int) := by rw [i64_mask (n / 8) 31 5 (by decide) (by decide), hK]; omega
    have hk2 : K ≤ 31 := by omega
    have HKK := As.mk hK
    clear hK
    clear h0 h8
    go_enter Try.func42, Try.ntmps42
    go_wp2_with (at_builtin; refine wpList_appMake w.heap.size rfl (.tmp 28) (.tmp 31) 24 3 5 rfl Try.underlying24 Try.underlying3 info5 K rfl rfl (bs := [106]) rfl HO.out (by omega) (by simp) ?_; intro v' w' ho hg; have HR := As.mk ho; have HG := As.mk hg; clear ho hg)
    go_ret
    refine ⟨_, rfl, ?_, (below_al w _).grown HG.out (by simp) (fun k hk => by injection hk with hk; omega)⟩
    rw [HE.out, ← HKK.out]
    exact .inl HR.out
  · have HE : As (scriptB n = [u8i (n / 8)]) := ⟨by unfold scriptB; rw [if_neg (by have := HC.out; omega), if_neg (by have := HC.out; omega), if_neg (by have := HC.out; omega), if_neg (by have := HC.out; omega), if_neg (by have := HC.out; omega)]⟩
    clear h0 h8
    go_enter Try.func42, Try.ntmps42
    go_wp2
    go_ret
    refine ⟨_, rfl, ?_, (Below.refl _ _).alloc (Nat.le_refl _) _⟩
    rw [HE.out]
    exact .inl (owB_lit w 1 #[.int .u8 (n / 8 % 256)] [u8i (n / 8)] (by simp [u8v, u8i_val]) rfl)
end Go.Proofs.Ytfggkljgfadacaa.W
