/- Transactions as lists: rows of any element, inputs, outputs; long, IndexFunc, ContainsFunc. -/
import Derived.Test.YtfggkljgfadacaaW7
import Derived.Deep.MidRow
import Derived.Deep.WholeRow
set_option linter.unusedVariables false
set_option linter.unusedSimpArgs false
namespace Go.Proofs.Ytfggkljgfadacaa.W
open Go.RowKit Go.Proofs.Ytfggkljgfadacaa.B Go.Proofs

section
variable {P : Program}
/-- A value of many cells into the block that was made last. -/
theorem wpList_store_new {ops : Array Oper} {rest : List Oper} {op : Oper} {a : Act} {w : World} {Q : Exit → Act → World → Prop} (hgd : op.guard = none) (ty : TypeId) (x y : Operand) (ho : op.op = .store ty x y)
    (w0 : World) (c : Array Value) (cs : List Value) (hw : w = w0.alloc (.cells c ty)) (hx : a.eval x = .pointer (some ⟨w0.heap.size, 0, none⟩)) (hy : a.eval y = .agg cs.toArray)
    (hi : (P.info? ty).map (·.size) = some cs.length) (hc : c.size = cs.length) (h1 : ∀ v ∈ cs, v.oneCell' = true)
    (h : wpList P ops Q rest (a.put op.dst undef) (w0.alloc (.cells cs.toArray ty))) : wpList P ops Q (op :: rest) a w := by
  subst hw
  refine wpList_plain hgd fun _ hK => ?_
  unfold Oper.wp execOp
  simp only [ho, hx, hy, run_storeAt_new w0 ty c cs.toArray (by simpa using hi) (by simpa using hc) (all_oneCell_toArray h1), Sem.run_bind, Sem.run_pure, Result.andThen_ok]
  exact hK _ _ h
end
structure LIn where
  prev : List UInt8
  vout : Nat
  script : List UInt8
  seq : Nat
  wit : List (List UInt8)
deriving DecidableEq
structure LOut where
  value : Nat
  script : List UInt8
deriving DecidableEq
structure LTx where
  ver : Nat
  ins : List LIn
  outs : List LOut
  lock : Nat
deriving DecidableEq

/-- A slice that reads as a list, each element so many cells. -/
def RdL {α : Type} (R : World → List Value → α → Prop) (size : Nat) (w : World) (v : Value) (xs : List α) : Prop :=
  ∃ A c, v = .slice A xs.length c ∧ xs.length ≤ c ∧ c ≤ maxLen ∧ (A = none → c = 0) ∧ ∀ ad, A = some ad → xs ≠ [] → ∃ g o, ad = ⟨g, o, none⟩ ∧ ∀ j x, xs[j]? = some x → ∃ cs : List Value, cs.length = size ∧ R w cs x ∧ w.rangeAt g (o + j * size) cs
def Stable {α : Type} (R : World → List Value → α → Prop) : Prop := ∀ w w' cs x, R w cs x → Below w.heap.size w w' → R w' cs x
theorem rangeAt_below {w w' : World} {g o : Nat} {cs : List Value} (h : w.rangeAt g o cs) (hb : Below w.heap.size w w') : w'.rangeAt g o cs := fun j v hv => cell_below hb (h j v hv)
theorem RdL.below {α : Type} {R : World → List Value → α → Prop} {size : Nat} {w w' : World} {v : Value} {xs : List α} (hR : Stable R) (h : RdL R size w v xs) (hb : Below w.heap.size w w') : RdL R size w' v xs := by
  obtain ⟨A, c, rfl, h1, h2, h3, h4⟩ := h
  refine ⟨A, c, rfl, h1, h2, h3, fun ad had hne => ?_⟩
  obtain ⟨g, o, rfl, h5⟩ := h4 ad had hne
  refine ⟨g, o, rfl, fun j x hx => ?_⟩
  obtain ⟨cs, h6, h7, h8⟩ := h5 j x hx
  exact ⟨cs, h6, hR _ _ _ _ h7 hb, rangeAt_below h8 hb⟩
theorem RdL.form {α : Type} {R : World → List Value → α → Prop} {size : Nat} {w : World} {v : Value} {xs : List α} (h : RdL R size w v xs) : ∃ A c, v = .slice A xs.length c ∧ xs.length ≤ c ∧ c ≤ maxLen ∧ (A = none → c = 0) := by
  obtain ⟨A, c, rfl, h1, h2, h3, h4⟩ := h
  exact ⟨A, c, rfl, h1, h2, h3⟩
theorem RdL.len {α : Type} {R : World → List Value → α → Prop} {size : Nat} {w : World} {v : Value} {xs : List α} (h : RdL R size w v xs) : xs.length ≤ maxLen := by
  obtain ⟨A, c, rfl, h1, h2, h3, h4⟩ := h
  omega
/-- Its k-th element. -/
theorem RdL.at {α : Type} {R : World → List Value → α → Prop} {size : Nat} {w : World} {A : Option Addr} {n c : Nat} {xs : List α} (h : RdL R size w (.slice A n c) xs) (k : Nat) (x : α) (hk : xs[k]? = some x) :
    ∃ g o cs, A = some ⟨g, o, none⟩ ∧ cs.length = size ∧ R w cs x ∧ w.rangeAt g (o + k * size) cs := by
  obtain ⟨A', c', he, h1, h2, h3, h4⟩ := h
  injection he with e1 e2 e3
  subst e1 e2 e3
  have hlt : k < xs.length := (List.getElem?_eq_some_iff.1 hk).1
  rcases A with _ | ad
  · have := h3 rfl; omega
  · obtain ⟨g, o, rfl, h5⟩ := h4 ad rfl (fun e => by rw [e] at hlt; simp at hlt)
    obtain ⟨cs, h6, h7, h8⟩ := h5 k x hk
    exact ⟨g, o, cs, rfl, h6, h7, h8⟩
def ByC (w : World) (cs : List Value) (b : List UInt8) : Prop := ∃ v, cs = [v] ∧ RdB w v b
theorem ByC.stable : Stable ByC := by
  rintro w w' cs x ⟨v, rfl, h⟩ hb
  exact ⟨v, rfl, h.below hb⟩
abbrev RdW (w : World) (v : Value) (ws : List (List UInt8)) : Prop := RdL ByC 1 w v ws
def InC (w : World) (cs : List Value) (x : LIn) : Prop :=
  ∃ sv wv, cs = x.prev.map u8v ++ [.int .u32 (x.vout : Int), sv, .int .u32 (x.seq : Int), wv] ∧ x.prev.length = 32 ∧ RdB w sv x.script ∧ RdW w wv x.wit ∧ x.vout < 4294967296 ∧ x.seq < 4294967296
theorem InC.stable : Stable InC := by
  rintro w w' cs x ⟨sv, wv, rfl, h1, h2, h3, h4⟩ hb
  exact ⟨sv, wv, rfl, h1, h2.below hb, h3.below ByC.stable hb, h4⟩
def OutC (w : World) (cs : List Value) (x : LOut) : Prop :=
  ∃ sv, cs = [.int .u64 (x.value : Int), sv] ∧ RdB w sv x.script ∧ x.value < 18446744073709551616
theorem OutC.stable : Stable OutC := by
  rintro w w' cs x ⟨sv, rfl, h1, h2⟩ hb
  exact ⟨sv, rfl, h1.below hb, h2⟩
abbrev RdIns (w : World) (v : Value) (xs : List LIn) : Prop := RdL InC 36 w v xs
abbrev RdOuts (w : World) (v : Value) (xs : List LOut) : Prop := RdL OutC 2 w v xs
/-- A transaction's cells. -/
def TxC (w : World) (cs : List Value) (t : LTx) : Prop :=
  ∃ iv ov, cs = [.int .u32 (t.ver : Int), iv, ov, .int .u32 (t.lock : Int)] ∧ RdIns w iv t.ins ∧ RdOuts w ov t.outs ∧ t.ver < 4294967296 ∧ t.lock < 4294967296
theorem TxC.stable : Stable TxC := by
  rintro w w' cs x ⟨iv, ov, rfl, h1, h2, h3⟩ hb
  exact ⟨iv, ov, rfl, h1.below InC.stable hb, h2.below OutC.stable hb, h3⟩

/-- A row's element of one cell: what is read at its place. -/
theorem RdW.at {w : World} {A : Option Addr} {n c : Nat} {ws : List (List UInt8)} (h : RdW w (.slice A n c) ws) (k : Nat) (hk : k < ws.length) :
    ∃ g o Ak b ck, A = some ⟨g, o, none⟩ ∧ As (ws[k]? = some b) ∧ w.cell? ⟨g, o + k, none⟩ = some (.slice Ak b.length ck) ∧ As (RdB w (.slice Ak b.length ck) b) := by
  obtain ⟨g, o, cs, rfl, h1, ⟨v, rfl, h2⟩, h3⟩ := RdL.at h k ws[k] (List.getElem?_eq_getElem hk)
  obtain ⟨Ak, ck, rfl, _⟩ := h2.form
  exact ⟨g, o, Ak, _, ck, rfl, ⟨List.getElem?_eq_getElem hk⟩, by simpa using h3 0 _ rfl, ⟨h2⟩⟩

theorem long_any (v : Value) (l : List UInt8) (w : World) (hr : RdB w v l) :
    Calls Try.prog 75 #[v] w fun e w' => e = .returned (.bool (decide ((500 : Int) < (l.length : Int)))) ∧ w = w' := by
  obtain ⟨A, c, rfl, _⟩ := hr.form
  clear hr
  go_enter Try.func75, Try.ntmps75
  go_wp2
  go_ret
  first | exact ⟨rfl, rfl⟩ | simp
set_option maxHeartbeats 1000000 in
set_option maxRecDepth 100000 in
theorem index_long (v : Value) (ws : List (List UInt8)) (w : World) (hr : RdW w v ws) :
    Calls Try.prog 97 #[v, .func (.func 75) #[] #[]] w fun e w' => ∃ r : Int, e = .returned (.int .i64 r) ∧ w = w' ∧ (0 ≤ r ↔ ∃ b ∈ ws, 500 < b.length) := by
  obtain ⟨A, c, rfl, _⟩ := hr.form
  have HR := As.mk hr
  have HM := As.mk hr.len
  clear hr
  have hm : (ws.length : Int) ≤ 9223372036854775807 := by have := HM.out; unfold maxLen at this; omega
  go_enter Try.func97, Try.ntmps97
  go_wp2
  go_loopw [8] (fun v8 wr => ∃ k : Nat, v8 = .int .i64 (k : Int) ∧ (k : Int) ≤ ws.length ∧ wr = w ∧ As (∀ b ∈ ws.take k, b.length ≤ 500)) (fun v8 _ => ws.length - (intOf v8).toNat)
  case atStart => exact ⟨0, rfl, by omega, rfl, ⟨fun b h => by simp at h⟩⟩
  case round =>
    obtain ⟨k, rfl, hk, rfl, HJ⟩ := hrel
    by_cases hlt : (k : Int) < ws.length
    · obtain ⟨g, o, Ak, b, ck, rfl, HK, hc, HB⟩ := RdW.at HR.out k (by omega)
      by_cases hb : (500 : Int) < b.length
      · go_wp2_with (go_at_call 75; (with_reducible refine (long_any _ _ _ HB.out).mono ?_); rintro e w' ⟨rfl, rfl⟩)
        go_ret
        exact ⟨_, rfl, by trivial, iff_of_true (by omega) ⟨b, List.mem_of_getElem? HK.out, by omega⟩⟩
      · go_wp2_with (go_at_call 75; (with_reducible refine (long_any _ _ _ HB.out).mono ?_); rintro e w' ⟨rfl, rfl⟩)
        go_roundw
        case rel =>
          refine ⟨k + 1, by go_num, by omega, by first | rfl | trivial, ⟨fun b' hb' => ?_⟩⟩
          rw [List.take_add_one, HK.out] at hb'
          rcases List.mem_append.1 hb' with h | h
          · exact HJ.out b' h
          · simp at h; subst h; omega
        case measure => simp [intOf]; omega
    · go_wp2
      go_ret
      refine ⟨_, rfl, rfl, iff_of_false (by omega) ?_⟩
      rintro ⟨b, hb, hl⟩
      have := HJ.out b (by rwa [List.take_of_length_le (by omega)])
      omega
theorem contains_long (v : Value) (ws : List (List UInt8)) (w : World) (hr : RdW w v ws) :
    Calls Try.prog 76 #[v, .func (.func 75) #[] #[]] w fun e w' => ∃ r : Bool, e = .returned (.bool r) ∧ w = w' ∧ (r = true ↔ ∃ b ∈ ws, 500 < b.length) := by
  have HR := As.mk hr
  clear hr
  go_enter Try.func76, Try.ntmps76
  go_wp2_with (go_at_call 97; (with_reducible refine (index_long _ ws _ HR.out).mono ?_); rintro e w' ⟨r, rfl, rfl, hr⟩; have H := As.mk hr; clear hr)
  go_ret
  exact ⟨_, rfl, by trivial, by rw [decide_eq_true_iff]; exact H.out⟩
theorem InC.facts {w : World} {cs : List Value} {x : LIn} (h : InC w cs x) : ∃ As' As'' cs' cw', cs[32]? = some (.int .u32 (x.vout : Int)) ∧ cs[33]? = some (.slice As' x.script.length cs') ∧ cs[34]? = some (.int .u32 (x.seq : Int)) ∧ cs[35]? = some (.slice As'' x.wit.length cw') ∧
    As (RdB w (.slice As' x.script.length cs') x.script) ∧ As (RdW w (.slice As'' x.wit.length cw') x.wit) := by
  obtain ⟨sv, wv, rfl, h1, h2, h3, _⟩ := h
  obtain ⟨A1, c1, rfl, _⟩ := h2.form
  obtain ⟨A2, c2, rfl, _⟩ := h3.form
  have hl : (x.prev.map u8v).length = 32 := by simpa using h1
  refine ⟨A1, A2, c1, c2, ?_, ?_, ?_, ?_, ⟨h2⟩, ⟨h3⟩⟩ <;> (rw [List.getElem?_append_right (by omega), hl]; rfl)
theorem wit_any (cs : List Value) (x : LIn) (w : World) (hr : InC w cs x) :
    Calls Try.prog 96 #[.agg cs.toArray] w fun e w' => e = .returned (.bool (decide (0 < x.wit.length))) ∧ Below w.heap.size w w' := by
  obtain ⟨A1, A2, c1, c2, h32, h33, h34, h35, HS, HW⟩ := hr.facts
  clear hr
  go_enter Try.func96, Try.ntmps96
  go_wp2
  go_ret
  exact ⟨rfl, (Below.refl _ _).alloc (Nat.le_refl _) _⟩
set_option maxHeartbeats 1000000 in
set_option maxRecDepth 100000 in
theorem index_wit (v : Value) (xs : List LIn) (w : World) (hr : RdIns w v xs) :
    Calls Try.prog 103 #[v, .func (.func 96) #[] #[]] w fun e w' => ∃ r : Int, e = .returned (.int .i64 r) ∧ Below w.heap.size w w' ∧ (0 ≤ r ↔ ∃ x ∈ xs, 0 < x.wit.length) := by
  obtain ⟨A, c, rfl, _⟩ := hr.form
  have HR := As.mk hr
  have HM := As.mk hr.len
  clear hr
  have hm : (xs.length : Int) ≤ 9223372036854775807 := by have := HM.out; unfold maxLen at this; omega
  go_enter Try.func103, Try.ntmps103
  go_wp2
  go_loopw [8] (fun v8 wr => ∃ k : Nat, v8 = .int .i64 (k : Int) ∧ (k : Int) ≤ xs.length ∧ As (Below w.heap.size w wr) ∧ As (∀ x ∈ xs.take k, x.wit.length ≤ 0)) (fun v8 _ => xs.length - (intOf v8).toNat)
  case atStart => exact ⟨0, rfl, by omega, ⟨Below.refl _ _⟩, ⟨fun b h => by simp at h⟩⟩
  case round =>
    obtain ⟨k, rfl, hk, HB, HJ⟩ := hrel
    by_cases hlt : (k : Int) < xs.length
    · have HK := As.mk (List.getElem?_eq_getElem (show k < xs.length by omega))
      generalize xs[k]'(by omega) = x at HK
      obtain ⟨g, o, cs, rfl, hcl, hin, hrange⟩ := RdL.at (HR.out.below InC.stable HB.out) k x HK.out
      have HL := As.mk hcl
      have HI := As.mk hin
      have HG := As.mk hrange
      clear hcl hin hrange
      by_cases hb : 0 < x.wit.length
      · go_wp2_with (first | ((with_reducible refine wpList_load_mid (op := ⟨_, .load 55 (.tmp 14), _, _, _, _⟩) ?hgd 55 (.tmp 14) rfl _ _ ?hx cs _ HG.out Try.underlying55 rfl ?hi ?_); (case hgd => exact rfl); (case hx => exact rfl); (case hi => rw [HL.out]; kernel_rfl)) | (go_at_call 96; (with_reducible refine (wit_any cs x _ HI.out).mono ?_); rintro e w' ⟨rfl, hb1⟩; have HB1 := As.mk hb1; clear hb1))
        go_ret
        exact ⟨_, rfl, HB.out.trans (HB1.out.mono HB.out.size), iff_of_true (by omega) ⟨x, List.mem_of_getElem? HK.out, by omega⟩⟩
      · go_wp2_with (first | ((with_reducible refine wpList_load_mid (op := ⟨_, .load 55 (.tmp 14), _, _, _, _⟩) ?hgd 55 (.tmp 14) rfl _ _ ?hx cs _ HG.out Try.underlying55 rfl ?hi ?_); (case hgd => exact rfl); (case hx => exact rfl); (case hi => rw [HL.out]; kernel_rfl)) | (go_at_call 96; (with_reducible refine (wit_any cs x _ HI.out).mono ?_); rintro e w' ⟨rfl, hb1⟩; have HB1 := As.mk hb1; clear hb1))
        go_roundw
        case rel =>
          refine ⟨k + 1, by go_num, by omega, ⟨HB.out.trans (HB1.out.mono HB.out.size)⟩, ⟨fun b' hb' => ?_⟩⟩
          rw [List.take_add_one, HK.out] at hb'
          rcases List.mem_append.1 hb' with h | h
          · exact HJ.out b' h
          · simp at h; subst h; omega
        case measure => simp [intOf]; omega
    · go_wp2
      go_ret
      refine ⟨_, rfl, HB.out, iff_of_false (by omega) ?_⟩
      rintro ⟨b, hb, hl⟩
      have := HJ.out b (by rwa [List.take_of_length_le (by omega)])
      omega
theorem contains_wit (v : Value) (xs : List LIn) (w : World) (hr : RdIns w v xs) :
    Calls Try.prog 95 #[v, .func (.func 96) #[] #[]] w fun e w' => ∃ r : Bool, e = .returned (.bool r) ∧ Below w.heap.size w w' ∧ (r = true ↔ ∃ x ∈ xs, 0 < x.wit.length) := by
  have HR := As.mk hr
  clear hr
  go_enter Try.func95, Try.ntmps95
  go_wp2_with (go_at_call 103; (with_reducible refine (index_wit _ xs _ HR.out).mono ?_); rintro e w' ⟨r, rfl, hb, hr⟩; have H := As.mk hr; have HB := As.mk hb; clear hr hb)
  go_ret
  exact ⟨_, rfl, HB.out, by rw [decide_eq_true_iff]; exact H.out⟩
end Go.Proofs.Ytfggkljgfadacaa.W
