/- What is told: lists of a word. -/
import Derived.Test.YtodcbcpjlhlakaaDoorR15
set_option linter.unusedVariables false
set_option linter.unusedSimpArgs false
namespace Go.Proofs.YtodcbcpjlhlakaaDoor.W
open Go.RowKit Go.Proofs.YtodcbcpjlhlakaaDoor.B Go.Proofs

/-- append(l, b) of one slice of bytes. -/
theorem wpList_appW {w : World} {ops : Array Oper} {rest : List Oper} {o : Oper} {a : Act} {Q : Exit → Act → World → Prop} (base : Nat) (hgd : o.guard = none) (s x : Operand)
    (ho : o.op = .call { callee := .builtin .append, args := #[s, x], argTypes := #[33, 33] }) (v : Value) (hs : a.eval s = v) (g : Nat) (hx : a.eval x = .slice (some ⟨g, 0, none⟩) 1 1) (u : Value) (hc : w.cell? ⟨g, 0, none⟩ = some u) (h1 : u.oneCell' = true)
    (ws : List (List UInt8)) (b : List UInt8) (hown : OwW w base v ws) (hu : El w base v.ownBlock u b) (hlen : ws.length ≤ 4000000) (hbase : base ≤ w.heap.size)
    (h : ∀ v' w', OwW w' base v' (ws ++ [b]) → w.grownBy w' v.ownBlock → wpList Tryd.prog ops Q rest (a.put o.dst v') w') : wpList Tryd.prog ops Q (o :: rest) a w := by
  obtain ⟨us, k1, k2⟩ := hown
  refine wpList_app base hgd s x 33 29 (.slice none 0 0) 1 24 ho Tryd.underlying33 info29 rfl (by decide) v (.slice (some ⟨g, 0, none⟩) 1 1) hs hx ws.length us k1 1 [u] ?_ (by intro y hy; simp at hy; subst hy; exact h1) (by unfold maxLen; omega) (by omega) hbase (fun v' w' q1 q2 q3 => h v' w' (OwW.app us k1 k2 hu q1 q2 q3) q2)
  refine ⟨rfl, _, _, rfl, Nat.le_refl _, by decide, (fun h => by cases h), ?_⟩
  rintro ad had j y hy
  obtain rfl := Option.some.inj had
  rcases j with _ | j
  · simp at hy; subst hy; exact hc
  · simp at hy
/-- The words of a text between bytes of one kind. -/
def wordsOf (c : UInt8) (s : List UInt8) : List (List UInt8) := (Lib.splitB ⟨#[c]⟩ 0 (Lib.countB ⟨s.toArray⟩ ⟨#[c]⟩) ⟨s.toArray⟩).map (·.data.toList)
end Go.Proofs.YtodcbcpjlhlakaaDoor.W
