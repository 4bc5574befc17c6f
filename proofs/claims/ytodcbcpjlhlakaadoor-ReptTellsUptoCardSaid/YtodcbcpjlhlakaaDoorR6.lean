/- What is told: rows of names; the document's rows. -/
import Derived.Test.YtodcbcpjlhlakaaDoorR5
set_option linter.unusedVariables false
set_option linter.unusedSimpArgs false
namespace Go.Proofs.YtodcbcpjlhlakaaDoor.W
open Go.RowKit Go.Proofs.YtodcbcpjlhlakaaDoor.B Go.Proofs

section
variable {P : Program}
/-- A value of many cells into the block that was made last. -/
theorem wpList_store_new {ops : Array Oper} {rest : List Oper} {op : Oper} {a : Act} {w : World} {Q : Exit → Act → World → Prop} (hgd : op.guard = none) (ty : TypeId) (x y : Operand) (ho : op.op = .store ty x y)
    (w0 : World) (c : Array Value) (cs : List Value) (hw : w = w0.alloc (.cells c ty)) (hx : a.eval x = .pointer (some ⟨w0.heap.size, 0, none⟩)) (hy : a.eval y = .agg cs.toArray)
    (hi : (P.info? ty).map (·.size) = some cs.length) (hc : c.size = cs.length) (h1 : ∀ v ∈ cs, v.oneCell' = true)
    (h : wpList P ops Q rest (a.put op.dst undef) (w0.alloc (.cells cs.toArray ty))) : wpList P ops Q (op :: rest) a w := by
  subst hw
  refine wpList_plain hgd fun _ hK => ?_
  unfold Oper.wp execOp
  simp only [ho, hx, hy, run_storeAt_new w0 ty c cs.toArray (by simpa using hi) (by simpa using hc) (all_oneCell_toArray h1), Sem.run_bind, Sem.run_pure, Result.andThen_ok]
  exact hK _ _ h
end
theorem join_short {f : List UInt8 → List UInt8} (n : Nat) (hf : ∀ x, (f x).length ≤ n) (xs : List (List UInt8)) : (Lib.join (xs.map f) [44]).length ≤ xs.length * (n + 1) := by
  have h2 : ∀ r : List (List UInt8), (Lib.joinTail [44] (r.map f)).length ≤ r.length * (n + 1) := by
    intro r
    induction r with
    | nil => simp [Lib.joinTail]
    | cons x r ih =>
      have := hf x
      simp only [Lib.joinTail, List.map_cons, List.flatten_cons, List.length_append, List.length_cons, List.length_nil] at ih ⊢
      rw [Nat.add_mul]
      omega
  cases xs with
  | nil => simp [Lib.join_nil]
  | cons x r =>
    have := hf x
    have := h2 r
    rw [List.map_cons, Lib.join_cons, List.length_append, List.length_cons, Nat.add_mul]
    omega
theorem idL_short (x : List UInt8) : (idL x).length ≤ 8 := by
  unfold idL hexL
  split
  · decide
  · rw [hex2_length, List.length_take]; omega
theorem id_as (cs : List Value) (x : List UInt8) (hc : cs = x.map u8v) (hx : x.length = 32) (w : World) :
    Calls Tryd.prog 17 #[.agg cs.toArray] w fun e w' => e = .returned (str (idL x)) ∧ Below w.heap.size w w' := by
  rw [hc]; exact id_any x hx w
theorem qid_as (cs : List Value) (x : List UInt8) (hc : cs = x.map u8v) (hx : x.length = 32) (w : World) :
    Calls Tryd.prog 27 #[.agg cs.toArray] w fun e w' => e = .returned (str (idL x)) ∧ Below w.heap.size w w' := by
  rw [hc]; exact qid_any x hx w
set_option maxHeartbeats 2000000 in
set_option maxRecDepth 100000 in
theorem ids_any (v : Value) (xs : List (List UInt8)) (w : World) (hr : RdN w v xs) (hl : xs.length ≤ 2000000) :
    Calls Tryd.prog 18 #[v] w fun e w' => e = .returned (str (joinL (xs.map idL))) ∧ Below w.heap.size w w' := by
  obtain ⟨A, c, rfl, -⟩ := hr.form
  have HR := As.mk hr
  have HL : As ((xs.length : Int) ≤ 2000000) := ⟨by omega⟩
  have HJ : As ((Lib.join (xs.map idL) [44]).length ≤ 140737488355328) := ⟨by have := join_short 8 idL_short xs; omega⟩
  clear hr hl
  go_enter Tryd.func18, Tryd.ntmps18
  by_cases h0 : xs = []
  · have HE : As (joinL (xs.map idL) = [45]) := ⟨by unfold joinL; rw [if_pos (by rw [h0]; rfl)]⟩
    subst h0
    go_wp2
    go_ret
    rw [HE.out]
    exact ⟨rfl, Below.refl _ _⟩
  · have hpos : (0 : Int) < (xs.length : Int) := by have := List.length_pos_iff.2 h0; omega
    have hne : ((xs.length : Int) == 0) = false := by rw [beq_eq_false_iff_ne]; omega
    have HE : As (joinL (xs.map idL) = Lib.join (xs.map idL) [44]) := ⟨by unfold joinL; rw [if_neg (fun e => h0 (List.map_eq_nil_iff.1 e))]⟩
    have HN := As.mk h0
    have hl := HL.out
    clear h0
    go_wp2
    go_loopw [3, 11] (fun v3 v11 wr => ∃ k : Nat, v11 = .int .i64 (k : Int) ∧ (k : Int) ≤ xs.length ∧ As (OwT wr w.heap.size v3 ((xs.take k).map idL)) ∧ As (Below w.heap.size w wr)) (fun _ v11 _ => xs.length - (intOf v11).toNat)
    case atStart => exact ⟨0, rfl, by omega, ⟨OwS.nil _ _ _ _⟩, ⟨Below.refl _ _⟩⟩
    case round =>
      obtain ⟨k, rfl, hk, HO, HB⟩ := hrel
      by_cases hlt : (k : Int) < xs.length
      · obtain ⟨x, hx⟩ : ∃ x, xs[k]? = some x := ⟨_, List.getElem?_eq_getElem (by omega)⟩
        obtain ⟨g, o, cs, rfl, hcl, ⟨hcs, hxl⟩, hrg⟩ := RdL.at (HR.out.below HB.out) k x hx
        have HX : As ((xs.take (k + 1)).map idL = (xs.take k).map idL ++ [idL x]) := ⟨map_snoc hx⟩
        have HKL : As (((xs.take k).map idL).length ≤ 4000000) := ⟨by rw [List.length_map, List.length_take]; omega⟩
        have HCL := As.mk hcl
        have HRG := As.mk hrg
        have HCS := As.mk (And.intro hcs hxl)
        have H1 : As (∀ v ∈ cs, v.oneCell' = true) := ⟨by rw [hcs]; exact u8v_one x⟩
        have HRN := As.mk (range_new wr cs 22)
        have HON := As.mk (OwS.below HO.out (below_al wr (.cells cs.toArray 22)))
        have HBN := As.mk (HB.out.alloc HB.out.size (.cells cs.toArray 22))
        clear hx hcl hcs hxl hrg
        go_wp2_with (first | ((with_reducible refine wpList_load_mid (op := ⟨_, .load 22 (.tmp 13), _, _, _, _⟩) ?hgd 22 (.tmp 13) rfl _ _ ?hx cs _ HRG.out Tryd.underlying22 rfl ?hi ?_); (case hgd => exact rfl); (case hx => exact rfl); (case hi => rw [HCL.out]; kernel_rfl)) | ((with_reducible refine wpList_store_new (op := ⟨_, .store 22 (.tmp 5) (.tmp 14), _, _, _, _⟩) ?hgd 22 (.tmp 5) (.tmp 14) rfl (wr) ?cc22 cs ?hw ?hx ?hy ?hi ?hc H1.out ?_); (case hgd => exact rfl); (case hw => exact rfl); (case hx => exact rfl); (case hy => exact rfl); (case hi => rw [HCL.out]; kernel_rfl); (case hc => rw [HCL.out]; exact rfl)) | ((with_reducible refine wpList_load_mid (op := ⟨_, .load 22 (.tmp 5), _, _, _, _⟩) ?hgd 22 (.tmp 5) rfl _ _ ?hx cs _ HRN.out Tryd.underlying22 rfl ?hi ?_); (case hgd => exact rfl); (case hx => exact rfl); (case hi => rw [HCL.out]; kernel_rfl)) | (go_at_call 17; (with_reducible refine (id_as cs x HCS.out.1 HCS.out.2 _).mono ?_); rintro e w1 ⟨rfl, hb⟩; have HO1 := As.mk (OwS.below HON.out hb); have HB1 := As.mk (HBN.out.trans (hb.mono HBN.out.size)); unfold str; clear hb) | (at_builtin; refine wpList_appT w.heap.size rfl (.tmp 15) (.tmp 18) rfl u3 rfl w1.heap.size rfl (idL x) ?hc ((xs.take k).map idL) (OwS.below HO1.out (below_al _ _)) HKL.out (by have := HB1.out.size; simp; omega) ?_; (case hc => simp [idL]); intro v4 w4 ho hg; have HO4 : As (OwT w4 w.heap.size v4 ((xs.take (k + 1)).map idL)) := ⟨by rw [HX.out]; exact ho⟩; have HB4 := As.mk ((HB1.out.alloc HB1.out.size _).grown hg (by have := HB1.out.size; simp; omega) (fun b hb => (OwS.lt HO1.out b hb).1)); clear ho hg))
        go_roundw
        case rel => exact ⟨k + 1, by go_num, by omega, HO4, HB4⟩
        case measure => simp [intOf]; omega
      · have hkN : k = xs.length := by omega
        have HO2 := HO
        rw [hkN, List.take_length] at HO2
        obtain ⟨g, o, c3, rfl, hcap, hglt, hcells⟩ := OwT.cells HO2.out (by intro e; exact HN.out (List.map_eq_nil_iff.1 e))
        have HJC := As.mk (And.intro hcap (And.intro hglt hcells))
        have HLM : As ((xs.map idL).length ≤ 140737488355328) := ⟨by rw [List.length_map]; omega⟩
        have HJB : As ((Lib.join (((xs.map idL).map fun b => (⟨b.toArray⟩ : ByteArray)).map (·.data.toList)) [44]) = Lib.join (xs.map idL) [44]) := ⟨join_bytes _⟩
        obtain ⟨zs, hzs⟩ : ∃ zs, zs = (xs.map idL).map fun b => (⟨b.toArray⟩ : ByteArray) := ⟨_, rfl⟩
        have HZL : As ((xs.map idL).length = zs.length) := ⟨by rw [hzs]; simp⟩
        rw [← hzs] at HJB HJC
        rw [HZL.out] at HLM HJC ⊢
        clear hkN hcap hglt hcells hzs HO2
        go_wp2_with (go_at_call 34; (with_reducible refine (Tryd.strings_Join g o c3 zs ⟨#[44]⟩ _ HJC.out.2.2 HJC.out.2.1 HLM.out HJC.out.1 (by show (Lib.join (zs.map (·.data.toList)) [44]).length ≤ _; rw [HJB.out]; exact HJ.out)).mono ?_); rintro e w9 ⟨rfl, hb⟩; have HB9 := As.mk (HB.out.trans (hb.mono HB.out.size)); clear hb)
        go_ret
        refine ⟨?_, HB9.out⟩
        rw [HE.out, ← HJB.out]
        rfl
end Go.Proofs.YtodcbcpjlhlakaaDoor.W
