/- What is told: the number of a word. -/
import Derived.Test.YtodcbcpjlhlakaaDoorR11
set_option linter.unusedVariables false
set_option linter.unusedSimpArgs false
namespace Go.Proofs.YtodcbcpjlhlakaaDoor.W
open Go.RowKit Go.Proofs.YtodcbcpjlhlakaaDoor.B Go.Proofs

/-- The number of a word; false: it is none. -/
def numP (s : List UInt8) : Int × Bool :=
  match Lib.atoiAll s with
  | .ok n => if 0 ≤ n ∧ Lib.itoa n = s ∧ s.length ≤ 9 then (n, true) else (0, false)
  | _ => (0, false)
theorem atoiAll_bounds {l : List UInt8} {n : Int} (h : Lib.atoiAll l = .ok n) : -9223372036854775808 ≤ n ∧ n ≤ 9223372036854775807 := by
  unfold Lib.atoiAll at h
  split at h
  · cases h
  · simp only at h
    split at h
    · cases h
    · cases h
    · split at h
      · cases h
      · split at h
        · cases h
        · injection h with h
          subst h
          split <;> omega
theorem below_or {w w' : World} (h : w' = w ∨ ∃ t, w' = Lib.bytesWorld w 5 t) : Below w.heap.size w w' := by
  rcases h with rfl | ⟨t, rfl⟩
  · exact Below.refl _ _
  · refine ⟨rfl, rfl, rfl, by rw [Lib.bytesWorld_size]; omega, fun k hk => Lib.bytesWorld_at_old w 5 _ k hk⟩
set_option maxHeartbeats 2000000 in
set_option maxRecDepth 100000 in
theorem num_of (s : List UInt8) (hs : s.length ≤ 4000000000) (w : World) (he : Env w) :
    Calls Tryd.prog 38 #[.string ⟨s.toArray⟩] w fun e w' => e = .returned (.tuple #[.int .i64 (numP s).1, .bool (numP s).2]) ∧ Below w.heap.size w w' := by
  have hsz : (⟨s.toArray⟩ : ByteArray).size = s.length := rfl
  have HS1 : As ((⟨s.toArray⟩ : ByteArray).size ≤ 9223372036854775806) := ⟨by rw [hsz]; omega⟩
  have HS2 : As ((⟨s.toArray⟩ : ByteArray).size ≤ 281474976710656) := ⟨by rw [hsz]; omega⟩
  have hdl : (⟨s.toArray⟩ : ByteArray).data.toList = s := rfl
  have HE := As.mk he
  obtain ⟨t2, p2, h2⟩ := he.2.1
  obtain ⟨t3, p3, h3⟩ := he.2.2.1
  have H2 := As.mk h2
  have H3 := As.mk h3
  clear hsz he h2 h3
  rcases hA : Lib.atoiAll s with n | _ | _
  · have HN := As.mk (atoiAll_bounds hA)
    have HA : As (Lib.atoiAll (⟨s.toArray⟩ : ByteArray).data.toList = .ok n) := ⟨hA⟩
    have HP : As (numP s = if 0 ≤ n ∧ Lib.itoa n = s ∧ s.length ≤ 9 then (n, true) else (0, false)) := ⟨by unfold numP; rw [hA]⟩
    clear hA hdl
    by_cases h0 : n < 0
    · have HF : As (numP s = (0, false)) := ⟨by rw [HP.out, if_neg (by omega)]⟩
      go_enter Tryd.func38, Tryd.ntmps38
      go_wp2_with (go_at_call 52; (with_reducible refine (Tryd.strconv_Atoi_ok _ HS1.out n HA.out _).mono ?_); rintro e w1 ⟨rfl, hb⟩; have HB1 := As.mk (below_or hb); clear hb)
      refine bodyPost_ret (v := .tuple #[.int .i64 0, .bool false]) (by simp [results, Tryd.results38, go_sem]) rfl ?_
      rw [HF.out]
      exact ⟨rfl, HB1.out⟩
    · have h0' : 0 ≤ n := by omega
      obtain ⟨I, hI⟩ : ∃ I, Lib.itoa n = I := ⟨_, rfl⟩
      have HI := As.mk hI
      by_cases h1 : I = s
      · by_cases h9 : (s.length : Int) ≤ 9
        · have HF : As (numP s = (n, true)) := ⟨by rw [HP.out, if_pos ⟨h0', by rw [hI]; exact h1, by omega⟩]⟩
          subst h1
          clear hI
          go_enter Tryd.func38, Tryd.ntmps38
          go_wp2_with (first | (go_at_call 52; (with_reducible refine (Tryd.strconv_Atoi_ok _ HS1.out n HA.out _).mono ?_); rintro e w1 ⟨rfl, hb⟩; have HB1 := As.mk (below_or hb); clear hb) | (go_at_call 16; (with_reducible refine (num_any n HN.out.1 HN.out.2 _ (HE.out.below HB1.out)).mono ?_); rintro e w2 ⟨he, hb⟩; simp only [HI.out, str] at he; subst he; have HB2 := As.mk (HB1.out.trans (hb.mono HB1.out.size)); clear hb))
          refine bodyPost_ret (v := .tuple #[.int .i64 n, .bool true]) (by simp [results, Tryd.results38, go_sem]) rfl ?_
          rw [HF.out]
          exact ⟨rfl, HB2.out⟩
        · have HF : As (numP s = (0, false)) := ⟨by rw [HP.out, if_neg (by omega)]⟩
          have h9' : (9 : Int) < (s.length : Int) := by omega
          subst h1
          clear hI
          go_enter Tryd.func38, Tryd.ntmps38
          go_wp2_with (first | (go_at_call 52; (with_reducible refine (Tryd.strconv_Atoi_ok _ HS1.out n HA.out _).mono ?_); rintro e w1 ⟨rfl, hb⟩; have HB1 := As.mk (below_or hb); clear hb) | (go_at_call 16; (with_reducible refine (num_any n HN.out.1 HN.out.2 _ (HE.out.below HB1.out)).mono ?_); rintro e w2 ⟨he, hb⟩; simp only [HI.out, str] at he; subst he; have HB2 := As.mk (HB1.out.trans (hb.mono HB1.out.size)); clear hb))
          refine bodyPost_ret (v := .tuple #[.int .i64 0, .bool false]) (by simp [results, Tryd.results38, go_sem]) rfl ?_
          rw [HF.out]
          exact ⟨rfl, HB2.out⟩
      · have HF : As (numP s = (0, false)) := ⟨by rw [HP.out, if_neg (by rw [hI]; exact fun h => h1 h.2.1)]⟩
        have hne : (I == s) = false := beq_eq_false_iff_ne.2 h1
        clear hI h1
        go_enter Tryd.func38, Tryd.ntmps38
        go_wp2_with (first | (go_at_call 52; (with_reducible refine (Tryd.strconv_Atoi_ok _ HS1.out n HA.out _).mono ?_); rintro e w1 ⟨rfl, hb⟩; have HB1 := As.mk (below_or hb); clear hb) | (go_at_call 16; (with_reducible refine (num_any n HN.out.1 HN.out.2 _ (HE.out.below HB1.out)).mono ?_); rintro e w2 ⟨he, hb⟩; simp only [HI.out, str] at he; subst he; have HB2 := As.mk (HB1.out.trans (hb.mono HB1.out.size)); clear hb))
        refine bodyPost_ret (v := .tuple #[.int .i64 0, .bool false]) (by simp [results, Tryd.results38, go_sem]) rfl ?_
        rw [HF.out]
        exact ⟨rfl, HB2.out⟩
  · have HA1 : As (∀ n, Lib.atoiAll (⟨s.toArray⟩ : ByteArray).data.toList ≠ .ok n) := ⟨fun n e => by rw [hdl, hA] at e; cases e⟩
    have HA2 : As (Lib.atoiAll (⟨s.toArray⟩ : ByteArray).data.toList ≠ .range) := ⟨fun e => by rw [hdl, hA] at e; cases e⟩
    have HF : As (numP s = (0, false)) := ⟨by unfold numP; rw [hA]⟩
    clear hA hdl
    go_enter Tryd.func38, Tryd.ntmps38
    go_wp2_with (go_at_call 52; (with_reducible refine (Tryd.strconv_Atoi_none_var _ HS2.out HA1.out HA2.out t2 p2 _ H2.out).mono ?_); rintro e w1 ⟨N, rfl, hn, hh, hb⟩; have HB1 := As.mk hb; clear hb hn hh)
    refine bodyPost_ret (v := .tuple #[.int .i64 0, .bool false]) (by simp [results, Tryd.results38, go_sem]) rfl ?_
    rw [HF.out]
    exact ⟨rfl, HB1.out⟩
  · have HA : As (Lib.atoiAll (⟨s.toArray⟩ : ByteArray).data.toList = .range) := ⟨hA⟩
    have HF : As (numP s = (0, false)) := ⟨by unfold numP; rw [hA]⟩
    clear hA hdl
    go_enter Tryd.func38, Tryd.ntmps38
    go_wp2_with (go_at_call 52; (with_reducible refine (Tryd.strconv_Atoi_range_var _ HS2.out HA.out t3 p3 _ H3.out).mono ?_); rintro e w1 ⟨N, rfl, hn, hh, hb⟩; have HB1 := As.mk hb; clear hb hn hh)
    refine bodyPost_ret (v := .tuple #[.int .i64 0, .bool false]) (by simp [results, Tryd.results38, go_sem]) rfl ?_
    rw [HF.out]
    exact ⟨rfl, HB1.out⟩
end Go.Proofs.YtodcbcpjlhlakaaDoor.W
