/- Two arrays of bytes are the same just if their bytes are. -/
import Derived.Test.YtfggkljgfadacaaT16
import Derived.Laws.StructEq
import Derived.ChangeKeysEq
set_option linter.unusedVariables false
set_option linter.unusedSimpArgs false
namespace Go.Proofs.Ytfggkljgfadacaa.W
open Go.RowKit Go.Proofs.Ytfggkljgfadacaa.B Go.Proofs

section
variable {P : Program}
theorem run_part_u8 (w : World) (e : TypeId) (he : P.underlying e = some (.int .u8)) (X : List UInt8) (k : Nat) (x : UInt8) (hx : X[k]? = some x) : (part e (X.map u8v).toArray k).run P w = .ok (u8v x) w := by
  have ha : (isAgg e).run P w = .ok false w := by simp [isAgg, run_underlying he]
  unfold part
  simp only [Sem.run_bind, ha, Result.andThen_ok, Bool.false_eq_true, if_false]
  have : (X.map u8v).toArray[k]? = some (u8v x) := by simp [hx]
  rw [this]
  rfl
theorem run_eqItems_u8 (w : World) (d : Nat) (e : TypeId) (he : P.underlying e = some (.int .u8)) (X Y : List UInt8) (h : X.length = Y.length) :
    ∀ (m k : Nat), k + m = X.length → (Op.eqItems (d + 1) e 1 (X.map u8v).toArray (Y.map u8v).toArray (List.range' k m)).run P w = .ok (X.drop k == Y.drop k) w
  | 0, k, hk => by
    rw [List.drop_of_length_le (by omega), List.drop_of_length_le (by omega)]
    simp [Op.eqItems]
  | m + 1, k, hk => by
    have h1 : k < X.length := by omega
    have h2 : k < Y.length := by omega
    have ih := run_eqItems_u8 w d e he X Y h m (k + 1) (by omega)
    rw [List.range'_succ]
    have p1 := run_part_u8 (P := P) w e he X k _ (List.getElem?_eq_getElem h1)
    have p2 := run_part_u8 (P := P) w e he Y k _ (List.getElem?_eq_getElem h2)
    have p3 : (Op.equalIn (d + 1) e (u8v X[k]) (u8v Y[k])).run P w = .ok (((X[k].toNat : Nat) : Int) == ((Y[k].toNat : Nat) : Int)) w := run_equalIn_int w d e .u8 .u8 _ _ he
    simp only [Op.eqItems, Nat.mul_one, Sem.run_bind, p1, p2, p3, Result.andThen_ok]
    rw [List.drop_eq_getElem_cons h1, List.drop_eq_getElem_cons h2]
    by_cases hxy : X[k] = Y[k]
    · have e1 : (((X[k].toNat : Nat) : Int) == ((Y[k].toNat : Nat) : Int)) = true := by rw [hxy]; simp
      rw [e1]
      simp only [Bool.not_true, Bool.false_eq_true, if_false, ih]
      congr 1
      rw [Bool.eq_iff_iff, beq_iff_eq, beq_iff_eq, hxy]
      simp only [List.cons.injEq, true_and]
    · have e1 : (((X[k].toNat : Nat) : Int) == ((Y[k].toNat : Nat) : Int)) = false := by
        rw [beq_eq_false_iff_ne]
        intro h
        exact hxy (UInt8.toNat_inj.1 (by omega))
      rw [e1]
      simp only [Bool.not_false, if_true, Sem.run_pure]
      congr 1
      symm
      rw [beq_eq_false_iff_ne]
      intro h
      injection h with h
      exact hxy h
theorem run_equalIn_u8s (w : World) (d : Nat) {t e : TypeId} {n : Nat} {i : TypeInfo} (ht : P.underlying t = some (.array n e)) (he : P.underlying e = some (.int .u8)) (hi : P.info? e = some i) (hc : P.cellsOf e = 1) (X Y : List UInt8) (hX : X.length = n) (hY : Y.length = n) :
    (Op.equalIn (d + 2) t (.agg (X.map u8v).toArray) (.agg (Y.map u8v).toArray)).run P w = .ok (X == Y) w := by
  rw [run_equalIn_array (P := P) w (d + 1) _ _ ht hi, hc, List.range_eq_range', run_eqItems_u8 w d e he X Y (by omega) n 0 (by omega)]
  rfl
end
theorem cells5 : Try.prog.cellsOf 5 = 1 := by kernel_rfl
/-- '==' of two names. -/
theorem run_eql53 (w : World) (X Y : List UInt8) (hX : X.length = 32) (hY : Y.length = 32) : (binOp .eql 53 (.agg (X.map u8v).toArray) (.agg (Y.map u8v).toArray)).run Try.prog w = .ok (.bool (X == Y)) w := by
  obtain ⟨i, hi, _⟩ := Option.map_eq_some_iff.1 info5
  rw [run_eql_struct, run_equalIn_u8s (P := Try.prog) w 9998 Try.underlying53 Try.underlying5 hi cells5 X Y hX hY]
  rfl
end Go.Proofs.Ytfggkljgfadacaa.W
