/- What is told: names and lists. -/
import Derived.Test.YtodcbcpjlhlakaaDoorR4
import Derived.Great.BuildSlice
set_option linter.unusedVariables false
set_option linter.unusedSimpArgs false
namespace Go.Proofs.YtodcbcpjlhlakaaDoor.W
open Go.RowKit Go.Proofs.YtodcbcpjlhlakaaDoor.B Go.Proofs

theorem range_new (w : World) (cs : List Value) (t : TypeId) : (w.alloc (.cells cs.toArray t)).rangeAt w.heap.size 0 cs := by
  intro j v hv
  rw [Nat.zero_add]
  simp [World.cell?_alloc_mark, hv]
/-- append(l, s) of one string. -/
theorem wpList_appT {w : World} {ops : Array Oper} {rest : List Oper} {o : Oper} {a : Act} {Q : Exit → Act → World → Prop} (base : Nat) (hgd : o.guard = none) (s x : Operand)
    (ho : o.op = .call { callee := .builtin .append, args := #[s, x], argTypes := #[27, 27] }) (v : Value) (hs : a.eval s = v) (g : Nat) (hx : a.eval x = .slice (some ⟨g, 0, none⟩) 1 1) (b : List UInt8) (hc : w.cell? ⟨g, 0, none⟩ = some (.string ⟨b.toArray⟩))
    (xs : List (List UInt8)) (hown : OwT w base v xs) (hlen : xs.length ≤ 4000000) (hbase : base ≤ w.heap.size)
    (h : ∀ v' w', OwT w' base v' (xs ++ [b]) → w.grownBy w' v.ownBlock → wpList Tryd.prog ops Q rest (a.put o.dst v') w') : wpList Tryd.prog ops Q (o :: rest) a w := by
  refine wpList_app base hgd s x 27 9 (.string ⟨#[]⟩) 1 16 ho Tryd.underlying27 info9 rfl (by decide) v (.slice (some ⟨g, 0, none⟩) 1 1) hs hx xs.length (xs.map str) hown 1 [str b] ?_ (str_one [b]) (by unfold maxLen; omega) (by omega) hbase (fun v' w' h1 h2 h3 => h v' w' ?_ h2)
  · refine ⟨rfl, _, _, rfl, Nat.le_refl _, by decide, (fun h => by cases h), ?_⟩
    rintro ad had j u hu
    obtain rfl := Option.some.inj had
    rcases j with _ | j
    · simp at hu; subst hu; exact hc
    · simp at hu
  · show OwS _ _ _ _ _ _ _
    rw [List.length_append, List.map_append]
    exact h1
/-- What strings.Join wants of such a row. -/
theorem OwT.cells {w : World} {base : Nat} {v : Value} {xs : List (List UInt8)} (h : OwT w base v xs) (hne : xs ≠ []) :
    ∃ g o c, v = .slice (some ⟨g, o, none⟩) xs.length c ∧ xs.length ≤ c ∧ g < w.heap.size ∧ ∀ (j : Nat) (x : ByteArray), (xs.map fun b => (⟨b.toArray⟩ : ByteArray))[j]? = some x → w.cell? ⟨g, o + j, none⟩ = some (.string x) := by
  have hl := h.lt
  have hrd := h.rd
  rcases h.2 with ⟨_, h0⟩ | ⟨g, off, cap, cur, rfl, q1, q2, q3, q4, q5, q6⟩
  · exact absurd (List.eq_nil_of_length_eq_zero h0) hne
  · refine ⟨g, off, cap, rfl, q3, (hl g rfl).2, fun j x hx => ?_⟩
    obtain ⟨_, A', c', he, _, _, _, hcell⟩ := hrd
    injection he with he1 he2 he3
    subst he1
    rw [List.getElem?_map] at hx
    obtain ⟨b, hb, rfl⟩ := Option.map_eq_some_iff.1 hx
    have := hcell _ rfl j (str b) (by rw [List.getElem?_map, hb]; rfl)
    rw [Addr.add_mid] at this
    exact this
/-- Texts with commas between. -/
def joinL (xs : List (List UInt8)) : List UInt8 := if xs = [] then [45] else Lib.join xs [44]
def idL (x : List UInt8) : List UInt8 := hexL (x.take 4)
theorem map_snoc {α β : Type} {l : List α} {f : α → β} {k : Nat} {x : α} (h : l[k]? = some x) : (l.take (k + 1)).map f = (l.take k).map f ++ [f x] := by
  obtain ⟨hk, hx⟩ := List.getElem?_eq_some_iff.1 h
  rw [List.take_succ_eq_append_getElem hk, List.map_append, hx]
  rfl
theorem join_bytes (xs : List (List UInt8)) : Lib.join ((xs.map fun b => (⟨b.toArray⟩ : ByteArray)).map (·.data.toList)) [44] = Lib.join xs [44] := by
  rw [List.map_map]
  congr 1
  conv => rhs; rw [← List.map_id xs]
  apply List.map_congr_left
  intro b _
  simp
set_option maxHeartbeats 2000000 in
set_option maxRecDepth 100000 in
theorem hexes_any (v : Value) (xs : List (List UInt8)) (w : World) (hr : RdW w v xs) (hl : xs.length ≤ 4000000) (hx : ∀ x ∈ xs, x.length ≤ 2000000) (hj : (Lib.join (xs.map hexL) [44]).length ≤ 140737488355328) :
    Calls Tryd.prog 23 #[v] w fun e w' => e = .returned (str (joinL (xs.map hexL))) ∧ Below w.heap.size w w' := by
  obtain ⟨A, c, rfl, -⟩ := hr.form
  have HR := As.mk hr
  have HL : As ((xs.length : Int) ≤ 4000000) := ⟨by omega⟩
  have HXL := As.mk hx
  have HJ := As.mk hj
  clear hr hl hx hj
  go_enter Tryd.func23, Tryd.ntmps23
  by_cases h0 : xs = []
  · have HE : As (joinL (xs.map hexL) = [45]) := ⟨by unfold joinL; rw [if_pos (by rw [h0]; rfl)]⟩
    subst h0
    go_wp2
    go_ret
    rw [HE.out]
    exact ⟨rfl, Below.refl _ _⟩
  · have hpos : (0 : Int) < (xs.length : Int) := by have := List.length_pos_iff.2 h0; omega
    have hne : ((xs.length : Int) == 0) = false := by rw [beq_eq_false_iff_ne]; omega
    have HE : As (joinL (xs.map hexL) = Lib.join (xs.map hexL) [44]) := ⟨by unfold joinL; rw [if_neg (fun e => h0 (List.map_eq_nil_iff.1 e))]⟩
    have HN := As.mk h0
    have hl := HL.out
    clear h0
    go_wp2
    go_loopw [3, 11] (fun v3 v11 wr => ∃ k : Nat, v11 = .int .i64 (k : Int) ∧ (k : Int) ≤ xs.length ∧ As (OwT wr w.heap.size v3 ((xs.take k).map hexL)) ∧ As (Below w.heap.size w wr)) (fun _ v11 _ => xs.length - (intOf v11).toNat)
    case atStart => exact ⟨0, rfl, by omega, ⟨OwS.nil _ _ _ _⟩, ⟨Below.refl _ _⟩⟩
    case round =>
      obtain ⟨k, rfl, hk, HO, HB⟩ := hrel
      by_cases hlt : (k : Int) < xs.length
      · obtain ⟨x, hx⟩ : ∃ x, xs[k]? = some x := ⟨_, List.getElem?_eq_getElem (by omega)⟩
        obtain ⟨g, o, B, d, rfl, hcell, hb⟩ := RdW.at (HR.out.below HB.out) k x hx
        have HX : As ((xs.take (k + 1)).map hexL = (xs.take k).map hexL ++ [hexL x]) := ⟨map_snoc hx⟩
        have HXX : As (x.length ≤ 2000000) := ⟨HXL.out x (List.mem_of_getElem? hx)⟩
        have HKL : As (((xs.take k).map hexL).length ≤ 4000000) := ⟨by rw [List.length_map, List.length_take]; omega⟩
        have HBX := As.mk hb
        clear hx hb
        go_wp2_with (first | (go_at_call 22; (with_reducible refine (hex_any _ x _ HBX.out HXX.out).mono ?_); rintro e w1 ⟨rfl, hb⟩; have HO1 := As.mk (OwS.below HO.out hb); have HB1 := As.mk (HB.out.trans (hb.mono HB.out.size)); unfold str; clear hb hcell) | (at_builtin; refine wpList_appT w.heap.size rfl (.tmp 15) (.tmp 18) rfl u3 rfl w1.heap.size rfl (hexL x) ?hc ((xs.take k).map hexL) (OwS.below HO1.out (below_al _ _)) HKL.out (by have := HB1.out.size; simp; omega) ?_; (case hc => simp); intro v4 w4 ho hg; have HO4 : As (OwT w4 w.heap.size v4 ((xs.take (k + 1)).map hexL)) := ⟨by rw [HX.out]; exact ho⟩; have HB4 := As.mk ((HB1.out.alloc HB1.out.size _).grown hg (by have := HB1.out.size; simp; omega) (fun b hb => (OwS.lt HO1.out b hb).1)); clear ho hg))
        go_roundw
        case rel => exact ⟨k + 1, by go_num, by omega, HO4, HB4⟩
        case measure => simp [intOf]; omega
      · have hkN : k = xs.length := by omega
        have HO2 := HO
        rw [hkN, List.take_length] at HO2
        obtain ⟨g, o, c3, rfl, hcap, hglt, hcells⟩ := OwT.cells HO2.out (by intro e; exact HN.out (List.map_eq_nil_iff.1 e))
        have HJC := As.mk (And.intro hcap (And.intro hglt hcells))
        have HLM : As ((xs.map hexL).length ≤ 140737488355328) := ⟨by rw [List.length_map]; omega⟩
        have HJB : As ((Lib.join (((xs.map hexL).map fun b => (⟨b.toArray⟩ : ByteArray)).map (·.data.toList)) [44]) = Lib.join (xs.map hexL) [44]) := ⟨join_bytes _⟩
        obtain ⟨zs, hzs⟩ : ∃ zs, zs = (xs.map hexL).map fun b => (⟨b.toArray⟩ : ByteArray) := ⟨_, rfl⟩
        have HZL : As ((xs.map hexL).length = zs.length) := ⟨by rw [hzs]; simp⟩
        rw [← hzs] at HJB HJC
        rw [HZL.out] at HLM HJC ⊢
        clear hkN hcap hglt hcells hzs HO2
        go_wp2_with (go_at_call 34; (with_reducible refine (Tryd.strings_Join g o c3 zs ⟨#[44]⟩ _ HJC.out.2.2 HJC.out.2.1 HLM.out HJC.out.1 (by show (Lib.join (zs.map (·.data.toList)) [44]).length ≤ _; rw [HJB.out]; exact HJ.out)).mono ?_); rintro e w9 ⟨rfl, hb⟩; have HB9 := As.mk (HB.out.trans (hb.mono HB.out.size)); clear hb)
        go_ret
        refine ⟨?_, HB9.out⟩
        rw [HE.out, ← HJB.out]
        rfl
end Go.Proofs.YtodcbcpjlhlakaaDoor.W
