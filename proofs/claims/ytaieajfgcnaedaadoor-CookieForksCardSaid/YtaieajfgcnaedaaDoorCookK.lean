/-
  LAYER 6: two cookies compared, and their bytes.
-/
import Derived.Test.YtaieajfgcnaedaaDoorCookI
set_option linter.unusedVariables false
set_option linter.unusedSimpArgs false
namespace Go.Proofs.YtaieajfgcnaedaaDoor
open Go.RowKit

set_option maxHeartbeats 6400000 in
theorem eqckn (W : World) (c e : Ck) (d : Nat) : (Op.equalIn (d + 1 + 1) 40 (.agg c.cells) (.agg e.cells)).run Tryd.prog W = .ok (decide (c = e)) W := by
  have p0 : ∀ (W : World) (x0 x1 x2 x3 x4 x5 x6 x7 x8 x9 x10 x11 x12 : Value), (part 3 #[x0, x1, x2, x3, x4, x5, x6, x7, x8, x9, x10, x11, x12] 0).run Tryd.prog W = .ok x0 W := fun _ _ _ _ _ _ _ _ _ _ _ _ _ _  => by kernel_rfl
  have p1 : ∀ (W : World) (x0 x1 x2 x3 x4 x5 x6 x7 x8 x9 x10 x11 x12 : Value), (part 3 #[x0, x1, x2, x3, x4, x5, x6, x7, x8, x9, x10, x11, x12] 1).run Tryd.prog W = .ok x1 W := fun _ _ _ _ _ _ _ _ _ _ _ _ _ _  => by kernel_rfl
  have p2 : ∀ (W : World) (x0 x1 x2 x3 x4 x5 x6 x7 x8 x9 x10 x11 x12 : Value), (part 37 #[x0, x1, x2, x3, x4, x5, x6, x7, x8, x9, x10, x11, x12] 2).run Tryd.prog W = .ok x2 W := fun _ _ _ _ _ _ _ _ _ _ _ _ _ _  => by kernel_rfl
  have p3 : ∀ (W : World) (x0 x1 x2 x3 x4 x5 x6 x7 x8 x9 x10 x11 x12 : Value), (part 37 #[x0, x1, x2, x3, x4, x5, x6, x7, x8, x9, x10, x11, x12] 3).run Tryd.prog W = .ok x3 W := fun _ _ _ _ _ _ _ _ _ _ _ _ _ _  => by kernel_rfl
  have p4 : ∀ (W : World) (x0 x1 x2 x3 x4 x5 x6 x7 x8 x9 x10 x11 x12 : Value), (part 38 #[x0, x1, x2, x3, x4, x5, x6, x7, x8, x9, x10, x11, x12] 4).run Tryd.prog W = .ok x4 W := fun _ _ _ _ _ _ _ _ _ _ _ _ _ _  => by kernel_rfl
  have p5 : ∀ (W : World) (x0 x1 x2 x3 x4 x5 x6 x7 x8 x9 x10 x11 x12 : Value), (part 38 #[x0, x1, x2, x3, x4, x5, x6, x7, x8, x9, x10, x11, x12] 5).run Tryd.prog W = .ok x5 W := fun _ _ _ _ _ _ _ _ _ _ _ _ _ _  => by kernel_rfl
  have p6 : ∀ (W : World) (x0 x1 x2 x3 x4 x5 x6 x7 x8 x9 x10 x11 x12 : Value), (part 38 #[x0, x1, x2, x3, x4, x5, x6, x7, x8, x9, x10, x11, x12] 6).run Tryd.prog W = .ok x6 W := fun _ _ _ _ _ _ _ _ _ _ _ _ _ _  => by kernel_rfl
  have p7 : ∀ (W : World) (x0 x1 x2 x3 x4 x5 x6 x7 x8 x9 x10 x11 x12 : Value), (part 38 #[x0, x1, x2, x3, x4, x5, x6, x7, x8, x9, x10, x11, x12] 7).run Tryd.prog W = .ok x7 W := fun _ _ _ _ _ _ _ _ _ _ _ _ _ _  => by kernel_rfl
  have p8 : ∀ (W : World) (x0 x1 x2 x3 x4 x5 x6 x7 x8 x9 x10 x11 x12 : Value), (part 38 #[x0, x1, x2, x3, x4, x5, x6, x7, x8, x9, x10, x11, x12] 8).run Tryd.prog W = .ok x8 W := fun _ _ _ _ _ _ _ _ _ _ _ _ _ _  => by kernel_rfl
  have p9 : ∀ (W : World) (x0 x1 x2 x3 x4 x5 x6 x7 x8 x9 x10 x11 x12 : Value), (part 37 #[x0, x1, x2, x3, x4, x5, x6, x7, x8, x9, x10, x11, x12] 9).run Tryd.prog W = .ok x9 W := fun _ _ _ _ _ _ _ _ _ _ _ _ _ _  => by kernel_rfl
  have p10 : ∀ (W : World) (x0 x1 x2 x3 x4 x5 x6 x7 x8 x9 x10 x11 x12 : Value), (part 37 #[x0, x1, x2, x3, x4, x5, x6, x7, x8, x9, x10, x11, x12] 10).run Tryd.prog W = .ok x10 W := fun _ _ _ _ _ _ _ _ _ _ _ _ _ _  => by kernel_rfl
  have p11 : ∀ (W : World) (x0 x1 x2 x3 x4 x5 x6 x7 x8 x9 x10 x11 x12 : Value), (part 38 #[x0, x1, x2, x3, x4, x5, x6, x7, x8, x9, x10, x11, x12] 11).run Tryd.prog W = .ok x11 W := fun _ _ _ _ _ _ _ _ _ _ _ _ _ _  => by kernel_rfl
  have p12 : ∀ (W : World) (x0 x1 x2 x3 x4 x5 x6 x7 x8 x9 x10 x11 x12 : Value), (part 38 #[x0, x1, x2, x3, x4, x5, x6, x7, x8, x9, x10, x11, x12] 12).run Tryd.prog W = .ok x12 W := fun _ _ _ _ _ _ _ _ _ _ _ _ _ _  => by kernel_rfl
  have hi := fun (W : World) (a b : Int) => run_equalIn_int (P := Tryd.prog) W d 3 .i64 .i64 a b Tryd.underlying3
  have hj := fun (W : World) (a b : Int) => run_equalIn_int (P := Tryd.prog) W d 37 .u16 .u16 a b Tryd.underlying37
  have hk := fun (W : World) (a b : Int) => run_equalIn_int (P := Tryd.prog) W d 38 .u32 .u32 a b Tryd.underlying38
  obtain ⟨a0, a1, a2, a3, a4, a5, a6, a7, a8, a9, a10, a11, a12⟩ := c
  obtain ⟨b0, b1, b2, b3, b4, b5, b6, b7, b8, b9, b10, b11, b12⟩ := e
  simp only [Ck.cells, Ck.mk.injEq]
  rw [Op.equalIn]
  by_cases h0 : a0 = b0
  rotate_left
  · have g := beq_eq_false_iff_ne.2 h0
    simp [run_underlying Tryd.underlying40, ck_stood, hi, hj, hk, p0, p1, p2, p3, p4, p5, p6, p7, p8, p9, p10, p11, p12, g, h0]
  subst h0
  by_cases h1 : a1 = b1
  rotate_left
  · have g := beq_eq_false_iff_ne.2 h1
    simp [run_underlying Tryd.underlying40, ck_stood, hi, hj, hk, p0, p1, p2, p3, p4, p5, p6, p7, p8, p9, p10, p11, p12, g, h1]
  subst h1
  by_cases h2 : a2 = b2
  rotate_left
  · have g := beq_eq_false_iff_ne.2 h2
    simp [run_underlying Tryd.underlying40, ck_stood, hi, hj, hk, p0, p1, p2, p3, p4, p5, p6, p7, p8, p9, p10, p11, p12, g, h2]
  subst h2
  by_cases h3 : a3 = b3
  rotate_left
  · have g := beq_eq_false_iff_ne.2 h3
    simp [run_underlying Tryd.underlying40, ck_stood, hi, hj, hk, p0, p1, p2, p3, p4, p5, p6, p7, p8, p9, p10, p11, p12, g, h3]
  subst h3
  by_cases h4 : a4 = b4
  rotate_left
  · have g := beq_eq_false_iff_ne.2 h4
    simp [run_underlying Tryd.underlying40, ck_stood, hi, hj, hk, p0, p1, p2, p3, p4, p5, p6, p7, p8, p9, p10, p11, p12, g, h4]
  subst h4
  by_cases h5 : a5 = b5
  rotate_left
  · have g := beq_eq_false_iff_ne.2 h5
    simp [run_underlying Tryd.underlying40, ck_stood, hi, hj, hk, p0, p1, p2, p3, p4, p5, p6, p7, p8, p9, p10, p11, p12, g, h5]
  subst h5
  by_cases h6 : a6 = b6
  rotate_left
  · have g := beq_eq_false_iff_ne.2 h6
    simp [run_underlying Tryd.underlying40, ck_stood, hi, hj, hk, p0, p1, p2, p3, p4, p5, p6, p7, p8, p9, p10, p11, p12, g, h6]
  subst h6
  by_cases h7 : a7 = b7
  rotate_left
  · have g := beq_eq_false_iff_ne.2 h7
    simp [run_underlying Tryd.underlying40, ck_stood, hi, hj, hk, p0, p1, p2, p3, p4, p5, p6, p7, p8, p9, p10, p11, p12, g, h7]
  subst h7
  by_cases h8 : a8 = b8
  rotate_left
  · have g := beq_eq_false_iff_ne.2 h8
    simp [run_underlying Tryd.underlying40, ck_stood, hi, hj, hk, p0, p1, p2, p3, p4, p5, p6, p7, p8, p9, p10, p11, p12, g, h8]
  subst h8
  by_cases h9 : a9 = b9
  rotate_left
  · have g := beq_eq_false_iff_ne.2 h9
    simp [run_underlying Tryd.underlying40, ck_stood, hi, hj, hk, p0, p1, p2, p3, p4, p5, p6, p7, p8, p9, p10, p11, p12, g, h9]
  subst h9
  by_cases h10 : a10 = b10
  rotate_left
  · have g := beq_eq_false_iff_ne.2 h10
    simp [run_underlying Tryd.underlying40, ck_stood, hi, hj, hk, p0, p1, p2, p3, p4, p5, p6, p7, p8, p9, p10, p11, p12, g, h10]
  subst h10
  by_cases h11 : a11 = b11
  rotate_left
  · have g := beq_eq_false_iff_ne.2 h11
    simp [run_underlying Tryd.underlying40, ck_stood, hi, hj, hk, p0, p1, p2, p3, p4, p5, p6, p7, p8, p9, p10, p11, p12, g, h11]
  subst h11
  by_cases h12 : a12 = b12
  rotate_left
  · have g := beq_eq_false_iff_ne.2 h12
    simp [run_underlying Tryd.underlying40, ck_stood, hi, hj, hk, p0, p1, p2, p3, p4, p5, p6, p7, p8, p9, p10, p11, p12, g, h12]
  subst h12
  simp [run_underlying Tryd.underlying40, ck_stood, hi, hj, hk, p0, p1, p2, p3, p4, p5, p6, p7, p8, p9, p10, p11, p12]
theorem eqck2 (W : World) (c e : Ck) : (binOp .eql 40 (.agg c.cells) (.agg e.cells)).run Tryd.prog W = .ok (.bool (decide (c = e))) W := by
  simp only [binOp]
  simp [Op.equal, Op.maxDepth, eqckn W c e 9998]
theorem neqck2 (W : World) (c e : Ck) : (binOp .neq 40 (.agg c.cells) (.agg e.cells)).run Tryd.prog W = .ok (.bool (!decide (c = e))) W := by
  simp only [binOp]
  simp [Op.equal, Op.maxDepth, eqckn W c e 9998]
/-- The 52 bytes of a cookie are those of another just if it is the same. -/
theorem plain_inj (c e : Ck) (hc : c.may) (he : e.may) (kc : c.Ok) (ke : e.Ok) : c.plain = e.plain ↔ c = e := by
  constructor
  · intro h
    have h1 := (num_seal c hc kc []).1
    have h2 := (num_seal e he ke []).1
    rw [← h1, ← h2, h]
  · intro h; rw [h]
end Go.Proofs.YtaieajfgcnaedaaDoor
