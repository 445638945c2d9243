/-
  MAPS WHOSE KEYS ARE WORDS OF 32 BITS, at the operations, for the walk. It speaks of no program.
-/
import Derived.Test.YtebfoigbiekeiaaMapU
import Derived.BigFrame
set_option linter.unusedVariables false
set_option linter.unusedSimpArgs false
namespace Go.Proofs.Ytebfoigbiekeiaa
open Go Go.RowKit

section
variable {P : Program} {w : World} {o : Oper} {a : Act} {K : Act → World → Prop} {Q : Exit → Act → World → Prop}
theorem wp_mlook (m x : Operand) (t k e : TypeId) (hop : o.op = Op.lookup t m x true) (hk : P.underlying k = some (.int .u32)) (ht : P.underlying t = some (.map k e)) {z : Value} (hz : (zeroValue e).run P w = .ok z w) (b : Nat) (M : List (Int × Value)) (hM : MapAt w P k b M) (hm : a.eval m = .map (some b)) (y : Int) (hx : a.eval x = .int .u32 y) (hy : 0 ≤ y ∧ y < 4294967296)
    (hK : K (a.put o.dst (.tuple #[(lookK y M).getD z, .bool (lookK y M).isSome])) w) : o.wp P a w K Q := by
  unfold Oper.wp
  simp [execOp, hop, hm, hx, hM.look hk ht hz hy, Result.andThen]
  exact hK
theorem wp_mlook1 (m x : Operand) (t k e : TypeId) (hop : o.op = Op.lookup t m x false) (hk : P.underlying k = some (.int .u32)) (ht : P.underlying t = some (.map k e)) {z : Value} (hz : (zeroValue e).run P w = .ok z w) (b : Nat) (M : List (Int × Value)) (hM : MapAt w P k b M) (hm : a.eval m = .map (some b)) (y : Int) (hx : a.eval x = .int .u32 y) (hy : 0 ≤ y ∧ y < 4294967296)
    (hK : K (a.put o.dst ((lookK y M).getD z)) w) : o.wp P a w K Q := by
  unfold Oper.wp
  simp [execOp, hop, hm, hx, hM.look1 hk ht hz hy, Result.andThen]
  exact hK
theorem wp_mput (m x v : Operand) (t k e : TypeId) (hop : o.op = Op.mapUpdate t m x v) (hk : P.underlying k = some (.int .u32)) (ht : P.underlying t = some (.map k e)) (b : Nat) (M : List (Int × Value)) (hM : MapAt w P k b M) (hn : M.length < maxLen) (hm : a.eval m = .map (some b)) (y : Int) (hx : a.eval x = .int .u32 y) (hy : 0 ≤ y ∧ y < 4294967296) (u : Value) (hv : a.eval v = u)
    (hK : ∀ w', MapAt w' P k b (putK y u M) → w.grownBy w' (some b) → K (a.put o.dst undef) w') : o.wp P a w K Q := by
  obtain ⟨w', hr, h1, h2⟩ := hM.put hk ht hn hy u
  unfold Oper.wp
  simp [execOp, hop, hm, hx, hv, hr, Result.andThen]
  exact hK w' h1 h2
theorem wp_mdel (m x : Operand) (t k e : TypeId) (hop : o.op = Op.call { callee := Callee.builtin Builtin.delete, args := #[m, x], argTypes := #[t, k] }) (hk : P.underlying k = some (.int .u32)) (ht : P.underlying t = some (.map k e)) (b : Nat) (M : List (Int × Value)) (hM : MapAt w P k b M) (hm : a.eval m = .map (some b)) (y : Int) (hx : a.eval x = .int .u32 y) (hy : 0 ≤ y ∧ y < 4294967296)
    (hK : ∀ w', MapAt w' P k b (delK y M) → w.grownBy w' (some b) → K (a.put o.dst (.tuple #[])) w') : o.wp P a w K Q := by
  obtain ⟨w', hr, h1, h2⟩ := hM.strike hk ht hy o.type
  unfold Oper.wp
  simp [execOp, hop, resolve, invoke, builtin, hm, hx, hr, Result.andThen]
  exact hK w' h1 h2
theorem wp_mlen (m : Operand) (t k e : TypeId) (hop : o.op = Op.call { callee := Callee.builtin Builtin.len, args := #[m], argTypes := #[t] }) (ht : P.underlying t = some (.map k e)) (b : Nat) (M : List (Int × Value)) (hM : MapAt w P k b M) (hm : a.eval m = .map (some b))
    (hK : K (a.put o.dst (.int .i64 M.length)) w) : o.wp P a w K Q := by
  unfold Oper.wp
  simp [execOp, hop, resolve, invoke, builtin, hm, hM.count ht o.type, Result.andThen]
  exact hK
end
end Go.Proofs.Ytebfoigbiekeiaa
