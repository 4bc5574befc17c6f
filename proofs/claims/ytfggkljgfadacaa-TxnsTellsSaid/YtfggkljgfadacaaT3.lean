/- txns.counted: a count and bytes; what a transaction's bytes are. -/
import Derived.Test.YtfggkljgfadacaaT2
set_option linter.unusedVariables false
set_option linter.unusedSimpArgs false
namespace Go.Proofs.Ytfggkljgfadacaa.W
open Go.RowKit Go.Proofs.Ytfggkljgfadacaa.B Go.Proofs

def cntB (x : List UInt8) : List UInt8 := cnt x.length ++ x
def inB (x : LIn) : List UInt8 := x.prev ++ le x.vout 4 ++ cntB x.script ++ le x.seq 4
def outB (y : LOut) : List UInt8 := le y.value 8 ++ cntB y.script
def bodyB (t : LTx) : List UInt8 := cnt t.ins.length ++ t.ins.flatMap inB ++ cnt t.outs.length ++ t.outs.flatMap outB
def witB (x : LIn) : List UInt8 := cnt x.wit.length ++ x.wit.flatMap cntB
def baseB (t : LTx) : List UInt8 := le t.ver 4 ++ bodyB t ++ le t.lock 4
def hasW (t : LTx) : Prop := ∃ x ∈ t.ins, 0 < x.wit.length
instance (t : LTx) : Decidable (hasW t) := by unfold hasW; infer_instance
def bytesB (t : LTx) : List UInt8 := if hasW t then le t.ver 4 ++ [0, 1] ++ bodyB t ++ t.ins.flatMap witB ++ le t.lock 4 else baseB t

theorem clampU_len (N : Nat) (h : N ≤ 4294967295) : clampU (N : Int) = N := by unfold clampU; omega
set_option maxHeartbeats 1000000 in
theorem counted_any (v y : Value) (l x : List UInt8) (w : World) (hr : RdB w v l) (hy : RdB w y x) (hl : l.length ≤ 1000000) (hx : x.length ≤ 100000) :
    Calls Try.prog 74 #[v, y] w fun e w' => ∃ r, e = .returned r ∧ OwB w' w.heap.size 5 r (l ++ cntB x) ∧ Below w.heap.size w w' := by
  obtain ⟨A, c, rfl, _⟩ := hy.form
  have HR := As.mk hr
  have HY := As.mk hy
  have HL := As.mk (And.intro hl hx)
  clear hr hy hl hx
  have HB : As (Below w.heap.size w w) := ⟨Below.refl _ _⟩
  go_enter Try.func74, Try.ntmps74
  go_wp2_with (first | (go_at_call 15; (with_reducible refine (count_any _ l _ _ HR.out (by have := HL.out; omega)).mono ?_); rintro e w1 ⟨r, rfl, ho, hb⟩; have HO := As.mk ho; have HY2 := As.mk (HY.out.below hb); clear HB; have HB := As.mk hb; clear ho hb) | (at_builtin; refine wpList_app (w.heap.size) rfl (.tmp 8) (.tmp 9) 24 5 (.int .u8 0) 1 1 rfl Try.underlying24 info5 rfl (by decide) (r) (.slice A x.length c) rfl rfl (l ++ cnt (clampU (x.length : Int))).length ((l ++ cnt (clampU (x.length : Int))).map u8v) ?own (x.length) ((x).map u8v) ?rd (u8v_one _) ?b1 ?b2 ?b3 ?_; (case own => exact (HO.out)); (case rd => exact (HY2.out)); (case b1 => have := HL.out; have := cnt_length (clampU (x.length : Int)); (try simp only [List.length_append]); unfold maxLen; omega); (case b2 => have := HL.out; have := cnt_length (clampU (x.length : Int)); (try simp only [List.length_append]); omega); (case b3 => have := HB.out.size; first | omega | (simp; done) | (simp; omega)); intro v1 v1w ho hg ht; have HO1 := As.mk (show OwB v1w (w.heap.size) 5 v1 ((l ++ cnt (clampU (x.length : Int))) ++ (x)) by (have hm : (x).length = x.length := by first | rfl | exact HC.out | simp [le_length]); unfold OwB; rw [List.length_append, List.map_append, hm]; exact ho); have HB2 : As (Below w.heap.size w v1w) := As.mk (Below.grown (by repeat' first | exact HB.out | refine Below.alloc ?_ (by have := HB.out.size; first | omega | (simp; done) | (simp; omega)) _) hg (by have := HB.out.size; first | omega | (simp; done) | (simp; omega)) (fun b hb => (HO.out.lt b hb).1)); have HGv1 := As.mk hg; clear ho hg ht; clear HB; have HB := HB2; clear HB2))
  go_ret
  refine ⟨_, rfl, ?_, HB.out⟩
  have h := HO1.out
  rw [clampU_len _ (by have := HL.out; omega), List.append_assoc] at h
  exact h
end Go.Proofs.Ytfggkljgfadacaa.W
