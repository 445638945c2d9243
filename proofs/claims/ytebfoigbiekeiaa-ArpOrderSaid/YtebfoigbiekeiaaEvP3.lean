/-
  Operations: cells, slices, whole numbers.
-/
import Derived.Test.YtebfoigbiekeiaaEvP2
set_option linter.unusedVariables false
set_option linter.unusedSimpArgs false
namespace Go.Ev
open Go Go.RowKit
variable {V : Vn}
variable {P : Program}
def Good (V : Vn) (μ : Map) (h : Hp) (w : World) (r : Result Value) (v : AVal) (h' : Hp) : Prop :=
  ∃ v' w' μ', r = .ok v' w' ∧ VR V μ' v v' ∧ HR V μ' h' w' ∧ Ext μ h w μ' h' w'
theorem Good.pure {μ h w v v'} {r : Result Value} (k : HR V μ h w) (hr : r = .ok v' w) (hv : VR V μ v v') : Good V μ h w r v h := ⟨v', w, μ, hr, hv, k, .refl _ _ _⟩
theorem cZero_spec {t : TypeId} {x : AVal} (h : cZero P t = some x) : ∃ i z, P.info? t = some i ∧ i.zero = some z ∧ ofConst z = some x := by
  unfold cZero at h
  simp only [Option.bind_eq_bind, Option.bind_eq_some_iff] at h
  obtain ⟨i, hi, z, hz, hx⟩ := h
  exact ⟨i, z, hi, hz, hx⟩
theorem VRs_take_self {μ : Map} {cs : List AVal} {l : List Value} (h : VRs V μ cs l) : VRs V μ cs (l.take cs.length) := by
  rw [h.length, List.take_length]; exact h
/-- a new row of cells -/
theorem Good.newCells {μ h w} (k : HR V μ h w) {cs : List AVal} {c : Array Value} (e : TypeId) (hv : VRs V μ cs c.toList) {r : Result Value}
    (hr : r = .ok (.pointer (some ⟨w.heap.size, 0, none⟩)) (w.alloc (.cells c e))) : Good V μ h w r (.ptr (h.alloc (.cells cs false)).1 0) (h.alloc (.cells cs false)).2 := by
  obtain ⟨a, b⟩ := k.allocCells e (VRs_take_self hv)
  exact ⟨_, _, _, hr, by rw [VR_ptr]; exact ⟨_, Map.add_same _ _ _, rfl⟩, a, b⟩
theorem good_alloc {μ h w} (k : HR V μ h w) {t : TypeId} {z : AVal} (hz : cZero P t = some z) :
    Good V μ h w ((Instr.alloc t true (.tuple #[])).run P w) (.ptr (h.alloc (.cells z.cells false)).1 0) (h.alloc (.cells z.cells false)).2 := by
  obtain ⟨i, zv, hi, hzv, hc⟩ := cZero_spec hz
  refine Good.newCells k t (VR_cells (VR_ofConst hc)) ?_
  simp [Instr.alloc, run_zeroValue' hi hzv, newVar, newRow]
theorem good_box {μ h w} (k : HR V μ h w) {t : TypeId} {x : AVal} {xv : Value} (hx : VR V μ x xv) :
    Good V μ h w ((Instr.box t xv).run P w) (.ptr (h.alloc (.cells x.cells false)).1 0) (h.alloc (.cells x.cells false)).2 := by
  refine Good.newCells k t (VR_cells hx) ?_
  simp [Instr.box, newVar, newRow]
theorem run_loadA {μ h w} (k : HR V μ h w) {t : TypeId} {n : Option Nat} (ht : cAgg P t = some n) {id off : _} {xv : Value} (hx : VR V μ (.ptr id off) xv) {v : AVal}
    (e : loadA h n id off = some v) : ∃ v', (Instr.loadAt t xv).run P w = .ok v' w ∧ VR V μ v v' := by
  obtain ⟨d, i, hd, hi, hagg, hsz⟩ := cAgg_spec ht w
  rw [VR_ptr] at hx
  obtain ⟨l, hl, rfl⟩ := hx
  unfold loadA at e
  cases n with
  | none =>
    simp only at e
    obtain ⟨l', u, hl', hc, hu⟩ := k.load1 e
    rw [hl] at hl'; cases hl'
    refine ⟨u, ?_, hu⟩
    simp only [Instr.loadAt, Instr.sureAddr, loadVar, Sem.run_bind, Sem.run_pure, Result.andThen_ok, hagg]
    simp [hc]
  | some n =>
    simp only [Option.map_eq_some_iff] at e
    obtain ⟨vs, hvs, rfl⟩ := e
    obtain ⟨l', us, hl', hu, hlen, hc⟩ := k.load hvs
    rw [hl] at hl'; cases hl'
    refine ⟨.agg us.toArray, ?_, by rw [VR]; exact ⟨_, rfl, by simpa using hu⟩⟩
    have hrun := run_loadCells_list (P := P) w ⟨l.b, l.s + off, none⟩ us (fun j u hj => by rw [add_none]; exact hc j u hj)
    have := hsz n rfl
    rw [hlen] at hrun
    simp only [Instr.loadAt, Instr.sureAddr, loadVar, Sem.run_bind, Sem.run_pure, Result.andThen_ok, hagg]
    simp [run_sizeOf' hi, this, hrun]
theorem good_load {μ h w} (k : HR V μ h w) {t : TypeId} {n : Option Nat} (ht : cAgg P t = some n) {id off : _} {xv : Value} (hx : VR V μ (.ptr id off) xv) {v : AVal}
    (e : loadA h n id off = some v) : Good V μ h w ((Instr.loadAt t xv).run P w) v h := by
  obtain ⟨v', h1, h2⟩ := run_loadA (P := P) k ht hx e
  exact Good.pure k h1 h2
theorem good_store {μ h w} (k : HR V μ h w) {t : TypeId} {i : TypeInfo} (hi : P.info? t = some i) {id off : _} {xv yv : Value} {y : AVal} (hx : VR V μ (.ptr id off) xv) (hy : VR V μ y yv) {h' : Hp}
    (hn : y.cells.length = i.size) (e : h.store id off y.cells = some h') : ∃ w', (Instr.storeAt t xv yv).run P w = .ok () w' ∧ HR V μ h' w' ∧ Ext μ h w μ h' w' := by
  rw [VR_ptr] at hx
  obtain ⟨l, hl, rfl⟩ := hx
  have hyc := VR_cells hy
  have hlen := hyc.length
  have hsz : yv.cells.size = i.size := by rw [← hn, hlen, Array.length_toList]
  by_cases hne : y.cells = []
  · have hnil : yv.cells.toList = [] := by rw [hne] at hyc; rw [VRs] at hyc; exact hyc
    refine ⟨w, ?_, ?_⟩
    · simp [Instr.storeAt, Instr.sureAddr, storeVar, run_sizeOf' hi, hsz, hnil, storeCells]
    · unfold Hp.store at e
      split at e
      · rename_i cs hg
        rw [hne, putAt_nil] at e
        simp only [Option.map_some, Option.some.injEq] at e
        obtain ⟨l', hl', hb⟩ := k.blk id _ hg
        subst e
        exact k.turn hg rfl hl' hb (fun _ _ => rfl) rfl rfl rfl rfl rfl
      · simp at e
  · obtain ⟨l', hl', hrun, hr, he⟩ := k.store e hne hyc
    rw [hl] at hl'; cases hl'
    refine ⟨_, ?_, hr, he⟩
    simp [Instr.storeAt, Instr.sureAddr, storeVar, run_sizeOf' hi, hsz, hrun P]
end Go.Ev
namespace Go.Ev
open Go Go.RowKit
variable {V : Vn}
variable {P : Program}
theorem fold_set (off : Nat) : ∀ (vs : List Value) (k : Nat) (c : Array Value), off + k + vs.length ≤ c.size →
    ((vs.zipIdx k).foldl (fun cs (x : Value × Nat) => cs.setIfInBounds (off + x.2) x.1) c).toList = c.toList.take (off + k) ++ vs ++ c.toList.drop (off + k + vs.length)
  | [], k, c, _ => by simp
  | v :: r, k, c, h => by
    simp only [List.length_cons] at h
    rw [List.zipIdx_cons, List.foldl_cons, fold_set off r (k + 1) _ (by simp; omega)]
    have ho : off + k < c.toList.length := by simp; omega
    have hol : (c.toList.take (off + k)).length = off + k := by simp; omega
    simp only [Array.toList_setIfInBounds, List.length_cons]
    rw [List.take_set, List.drop_set_of_lt (by omega), show off + (k + 1) = off + k + 1 by omega, show off + k + 1 + r.length = off + k + (r.length + 1) by omega]
    rw [List.take_succ_eq_append_getElem ho, List.set_append, if_neg (by rw [hol]; omega), hol, Nat.sub_self, List.set_cons_zero, List.append_assoc, List.append_assoc, List.append_assoc]
    rfl
theorem fill_ok {μ : Map} (place : Nat → Option (Nat × Nat)) : ∀ (parts : List (Nat × Value)) (ap : List (Nat × Nat × AVal)) (cs cs' : List AVal) (c : Array Value),
    VRs V μ cs c.toList → fillA ap cs = some cs' →
    ap.length = parts.length → (∀ (j : Nat) (o s : Nat) (x : AVal) (i : Nat) (v : Value), ap[j]? = some (o, s, x) → parts[j]? = some (i, v) → place i = some (o, s) ∧ VR V μ x v) →
    ∃ c', Instr.fill place c parts = some c' ∧ VRs V μ cs' c'.toList ∧ c'.size = c.size
  | [], ap, cs, cs', c, hc, e, hl, hr => by
    cases ap with
    | nil => simp [fillA] at e; subst e; exact ⟨c, rfl, hc, rfl⟩
    | cons a r => simp at hl
  | (i, v) :: parts, ap, cs, cs', c, hc, e, hl, hr => by
    cases ap with
    | nil => simp at hl
    | cons a r =>
      obtain ⟨o, s, x⟩ := a
      obtain ⟨hp, hx⟩ := hr 0 o s x i v rfl rfl
      simp only [fillA] at e
      split at e
      · rename_i hs
        split at e
        · rename_i cs1 h1
          have hxc := VR_cells hx
          have hxl : x.cells.length = v.cells.size := by rw [hxc.length, Array.length_toList]
          have hcl : cs.length = c.size := by rw [hc.length, Array.length_toList]
          have hne : x.cells ≠ [] := fun h => by rw [h] at hs; simp at hs; omega
          obtain ⟨a1, a2, a3⟩ := putAt_eq _ _ _ _ h1 hne
          have hfold := fold_set o v.cells.toList 0 c (by rw [Array.length_toList]; omega)
          rw [Nat.add_zero] at hfold
          have hf2 : (v.cells.zipIdx.foldl (fun cs (x : Value × Nat) => cs.setIfInBounds (o + x.2) x.1) c).toList = c.toList.take o ++ v.cells.toList ++ c.toList.drop (o + v.cells.toList.length) := by
            rw [← Array.foldl_toList, Array.toList_zipIdx, hfold]
          generalize hc1 : v.cells.zipIdx.foldl (fun cs (x : Value × Nat) => cs.setIfInBounds (o + x.2) x.1) c = c1 at hf2
          have h3 : VRs V μ cs1 c1.toList := by
            rw [hf2, a2]
            have e1 : o + x.cells.length = o + v.cells.toList.length := by rw [hxc.length]
            rw [e1]
            exact VRs_append (VRs_append (VRs_take _ hc) hxc) (VRs_drop _ hc)
          have h4 : c1.size = c.size := by
            rw [← Array.length_toList, hf2]; simp; omega
          obtain ⟨c', q1, q2, q3⟩ := fill_ok place parts r cs1 cs' c1 h3 e (by simpa using hl) (fun j o s x i v hj hk => hr (j + 1) o s x i v (by simpa using hj) (by simpa using hk))
          refine ⟨c', ?_, q2, by omega⟩
          unfold Instr.fill
          simp only [hp]
          rw [if_neg (by simp; omega), ← q1, ← hc1]
        · simp at e
      · simp at e
end Go.Ev
namespace Go.Ev
open Go Go.RowKit
variable {V : Vn} {P : Program} {μ : Map}
theorem wrap_in (k : IntKind) (n : Int) (h : k.min ≤ n ∧ n ≤ k.max) : k.wrap n = n := by
  cases k <;> simp [IntKind.wrap, IntKind.min, IntKind.max, IntKind.bits, IntKind.signed] at h ⊢ <;> omega
theorem wrap_full (k : IntKind) (n : Int) : k.min ≤ k.wrap n ∧ k.wrap n ≤ k.max := by
  cases k <;> simp [IntKind.wrap, IntKind.min, IntKind.max, IntKind.bits, IntKind.signed] <;> omega
def BOk (V : Vn) (B : Bnds) : Prop := (∀ i lo hi, bndOf B i = some (lo, hi) → lo ≤ V.i i ∧ V.i i ≤ hi) ∧ ∀ i j, apartOf B i j = true → V.i i ≠ V.i j
theorem bOk_nil (V : Vn) : BOk V [] := ⟨fun i lo hi e => by simp [bndOf] at e, fun i j e => by simp [apartOf] at e⟩
theorem iv_spec {B : Bnds} (hB : BOk V B) {x : AVal} {v : Value} {k a b} (h : iv B x = some (k, a, b)) (hx : VR V μ x v) : ∃ n, v = .int k n ∧ a ≤ n ∧ n ≤ b := by
  cases x <;> simp only [iv] at h <;> first | (simp at h; done) | skip
  · cases h; rw [VR] at hx; exact ⟨_, hx, Int.le_refl _, Int.le_refl _⟩
  · simp only [Option.map_eq_some_iff] at h
    obtain ⟨⟨lo, hi⟩, h1, h2⟩ := h
    cases h2
    have := hB.1 _ _ _ h1
    rw [VR] at hx
    exact ⟨_, hx, by omega, by omega⟩
  · cases h; rw [VR] at hx; exact hx
theorem VR_int {k : IntKind} {n : Int} {v : Value} : VR V μ (.int k n) v ↔ v = .int k n := by rw [VR]
theorem VR_rng {k : IntKind} {a b : Int} {v : Value} : VR V μ (.rng k a b) v ↔ ∃ n, v = .int k n ∧ a ≤ n ∧ n ≤ b := by rw [VR]
theorem VR_lin {k : IntKind} {i : Nat} {c : Int} {v : Value} : VR V μ (.lin k i c) v ↔ v = .int k (V.i i + c) := by rw [VR]
theorem VR_full {k : IntKind} {n : Int} : VR V μ (full k) (.int k (k.wrap n)) := by
  unfold full; rw [VR_rng]; exact ⟨_, rfl, wrap_full k n⟩
theorem VR_mkRng {k : IntKind} {n a b : Int} (h : a ≤ n ∧ n ≤ b) : VR V μ (mkRng k a b) (.int k (k.wrap n)) := by
  unfold mkRng
  split
  · rename_i hh
    rw [VR_rng, wrap_in k n (by omega)]
    exact ⟨_, rfl, h⟩
  · exact VR_full
set_option maxHeartbeats 1000000 in
theorem run_binS {B : Bnds} (hB : BOk V B) (op : BinOp) (t : TypeId) {x y r : AVal} {xv yv : Value} (h : binS B op x y = some r) (hx : VR V μ x xv) (hy : VR V μ y yv) (w : World) :
    ∃ v', (binOp op t xv yv).run P w = .ok v' w ∧ VR V μ r v' := by
  unfold binS at h
  split at h
  · rename_i k a b j c d h1 h2
    split at h
    · simp at h
    · rename_i hk
      have hk : k = j := by simpa using hk
      subst hk
      obtain ⟨n, rfl, n1, n2⟩ := iv_spec hB h1 hx
      obtain ⟨m, rfl, m1, m2⟩ := iv_spec hB h2 hy
      cases op <;> simp only at h <;> first | (simp at h; done) | skip
      · -- add
        refine ⟨.int k (k.wrap (n + m)), by simp [binOp, Op.intArith], ?_⟩
        split at h
        · rename_i i e q
          rw [VR_lin] at hx; rw [VR_int] at hy
          cases hx; cases hy
          simp only [iv] at h2; cases h2
          split at h
          · rename_i hh
            cases h
            rw [VR_lin, wrap_in _ _ (by omega)]
            congr 1; omega
          · cases h; exact VR_full
        · rename_i q i e
          rw [VR_lin] at hy; rw [VR_int] at hx
          cases hx; cases hy
          simp only [iv] at h1; cases h1
          split at h
          · rename_i hh
            cases h
            rw [VR_lin, wrap_in _ _ (by omega)]
            congr 1; omega
          · cases h; exact VR_full
        · cases h; exact VR_mkRng (by omega)
      · -- sub
        refine ⟨.int k (k.wrap (n - m)), by simp [binOp, Op.intArith], ?_⟩
        split at h
        · rename_i i e q
          rw [VR_lin] at hx; rw [VR_int] at hy
          cases hx; cases hy
          simp only [iv] at h2; cases h2
          split at h
          · rename_i hh
            cases h
            rw [VR_lin, wrap_in _ _ (by omega)]
            congr 1; omega
          · cases h; exact VR_full
        · rename_i i e l f
          rw [VR_lin] at hx; rw [VR_lin] at hy
          cases hx; cases hy
          split at h
          · rename_i hh
            cases h
            subst hh
            rw [VR_int]
            congr 2; omega
          · cases h; exact VR_mkRng (by omega)
        · cases h; exact VR_mkRng (by omega)
      · cases h; exact ⟨.int k (k.wrap (n * m)), by simp [binOp, Op.intArith], VR_full⟩
      · cases h; exact ⟨_, by simp only [binOp, Op.intBits, ne_eq, not_true_eq_false, if_false]; rfl, VR_full⟩
      · cases h; exact ⟨_, by simp only [binOp, Op.intBits, ne_eq, not_true_eq_false, if_false]; rfl, VR_full⟩
      · cases h; exact ⟨_, by simp only [binOp, Op.intBits, ne_eq, not_true_eq_false, if_false]; rfl, VR_full⟩
      · cases h; exact ⟨_, by simp only [binOp, Op.intBits, ne_eq, not_true_eq_false, if_false]; rfl, VR_full⟩
      all_goals
        refine ⟨_, by simp only [binOp, Op.intCmp, ne_eq, not_true_eq_false, if_false]; rfl, ?_⟩
        split at h
        · rename_i i e l f
          rw [VR_lin] at hx; rw [VR_lin] at hy
          cases hx; cases hy
          split at h
          · rename_i hh
            subst hh
            cases h
            rw [VR_bool]
            congr 1
            first
              | (rw [Bool.eq_iff_iff]; simp; omega)
              | (rw [Bool.eq_iff_iff]; simp)
          · first
              | (simp at h; done)
              | (split at h
                 · rename_i hh
                   obtain ⟨rfl, hne⟩ := hh
                   cases h
                   have := hB.2 _ _ hne
                   rw [VR_bool]
                   congr 1
                   first
                     | (simp; omega)
                     | (rw [Bool.eq_iff_iff]; simp; omega)
                 · simp at h)
        · repeat' split at h
          all_goals first
            | (simp at h; done)
            | (cases h
               rw [VR_bool]
               congr 1
               simp
               omega)
            | (cases h
               rw [VR_bool]
               congr 1
               rw [Bool.eq_iff_iff]
               simp
               omega)
  · simp at h
theorem run_toInt {B : Bnds} (hB : BOk V B) {k : IntKind} {x r : AVal} {xv : Value} (h : toIntA B k x = some r) (hx : VR V μ x xv) : ∃ j n, xv = .int j n ∧ VR V μ r (.int k (k.wrap n)) := by
  unfold toIntA at h
  split at h
  · cases h
    rw [VR_int] at hx
    exact ⟨_, _, hx, by rw [VR_int]⟩
  · rename_i x _
    split at h
    · rename_i j a b h1
      obtain ⟨n, rfl, n1, n2⟩ := iv_spec hB h1 hx
      refine ⟨j, n, rfl, ?_⟩
      split at h
      · rename_i hh
        split at h
        · cases h
          rw [VR_lin] at hx; cases hx
          rw [VR_lin, wrap_in _ _ (by omega)]
        · cases h
          rw [VR_rng, wrap_in _ _ (by omega)]
          exact ⟨_, rfl, n1, n2⟩
      · cases h; exact VR_full
    · simp at h
end Go.Ev
namespace Go.Ev
open Go Go.RowKit
variable {V : Vn} {P : Program} {μ : Map}
theorem idx_spec {x : AVal} {v : Value} {len i : Nat} (h : idx x len = some i) (hx : VR V μ x v) : ∃ k n, v = .int k n ∧ 0 ≤ n ∧ n < len ∧ n.toNat = i := by
  unfold idx at h
  split at h
  · rename_i k n
    split at h
    · rename_i hh
      cases h
      rw [VR_int] at hx
      exact ⟨k, n, hx, hh.1, hh.2, rfl⟩
    · simp at h
  · simp at h
theorem bnd_spec {x : AVal} {v : Value} {top i : Nat} (h : bnd x top = some i) (hx : VR V μ x v) (c : BoundsCode) (w : World) : (Instr.sliceBound v top c).run P w = .ok i w ∧ i ≤ top := by
  unfold bnd at h
  split at h
  · rename_i k n
    split at h
    · rename_i hh
      cases h
      rw [VR_int] at hx
      subst hx
      refine ⟨?_, by omega⟩
      simp only [Instr.sliceBound, asIntOf, Sem.run_bind, Sem.run_pure, Result.andThen_ok]
      rw [if_pos hh]; rfl
    · simp at h
  · simp at h
/-- operands that may lack -/
def VRo (V : Vn) (μ : Map) : Option AVal → Option Value → Prop
  | none, none => True
  | some x, some v => VR V μ x v
  | _, _ => False
theorem bounds_spec {len cap : Nat} {lo hi mx : Option AVal} {lo' hi' mx' : Option Value} {l t m : Nat} (h : bounds len cap lo hi mx = some (l, t, m)) (h1 : VRo V μ lo lo') (h2 : VRo V μ hi hi') (h3 : VRo V μ mx mx') (isS : Bool) (w : World) (hlc : len ≤ cap) :
    (Instr.sliceBounds isS len cap lo' hi' mx').run P w = .ok (l, t, m) w ∧ l ≤ t ∧ t ≤ m ∧ m ≤ cap := by
  unfold bounds at h
  simp only [Option.bind_eq_some_iff, Option.some.injEq, Prod.mk.injEq] at h
  obtain ⟨m0, hm, t0, ht, l0, hl, rfl, rfl, rfl⟩ := h
  unfold Instr.sliceBounds
  have f3 : l0 ≤ t0 := by
    cases lo with
    | none => simp [bL] at hl; omega
    | some v => cases lo' with
      | none => simp [VRo] at h1
      | some v' => exact (bnd_spec (P := P) hl h1 .index w).2
  have f1 : m0 ≤ cap := by
    cases mx with
    | none => simp [bM] at hm; omega
    | some v => cases mx' with
      | none => simp [VRo] at h3
      | some v' => exact (bnd_spec (P := P) hm h3 .index w).2
  have f2 : t0 ≤ m0 := by
    cases hi with
    | none => cases mx with
      | none => simp [bH, bM] at ht hm; omega
      | some v => simp [bH] at ht
    | some v => cases hi' with
      | none => simp [VRo] at h2
      | some v' => exact (bnd_spec (P := P) ht h2 .index w).2
  refine ⟨?_, f3, f2, f1⟩
  cases mx <;> cases mx' <;> simp only [VRo] at h3 <;> cases hi <;> cases hi' <;> simp only [VRo] at h2 <;> simp only [bH, bM, Option.isSome_none, Option.isSome_some] at ht hm <;>
    cases lo <;> cases lo' <;> simp only [VRo] at h1 <;> simp only [bL] at hl
  · cases hm; cases ht; cases hl; simp
  · cases hm; cases ht; simp [fun c w => (bnd_spec (P := P) hl h1 c w).1]
  · cases hm; cases hl; simp [fun c w => (bnd_spec (P := P) ht h2 c w).1]
  · cases hm; simp [fun c w => (bnd_spec (P := P) ht h2 c w).1, fun c w => (bnd_spec (P := P) hl h1 c w).1]
  · simp at ht
  · simp at ht
  · cases hl; simp [fun c w => (bnd_spec (P := P) ht h2 c w).1, fun c w => (bnd_spec (P := P) hm h3 c w).1]
  · simp [fun c w => (bnd_spec (P := P) ht h2 c w).1, fun c w => (bnd_spec (P := P) hm h3 c w).1, fun c w => (bnd_spec (P := P) hl h1 c w).1]
theorem run_indexSl {t e : TypeId} {j : TypeInfo} (hu : P.underlying t = some (.slice e)) (hj : P.info? e = some j) {a : Addr} {len cap : Nat} {k : IntKind} {n : Int} (h0 : 0 ≤ n) (h1 : n < len) (w : World) :
    (Instr.indexAt t (.slice (some a) len cap) (.int k n)).run P w = .ok (.pointer (some (a.add (n.toNat * j.size)))) w := by
  simp [Instr.indexAt, asIntOf, run_underlying hu, h0, h1, run_sizeOf' hj]
theorem run_indexArr {t e : TypeId} {j : TypeInfo} {len : Nat} (hu : P.underlying t = some (.array len e)) (hj : P.info? e = some j) {a : Addr} {k : IntKind} {n : Int} (h0 : 0 ≤ n) (h1 : n < len) (w : World) :
    (Instr.indexAt t (.pointer (some a)) (.int k n)).run P w = .ok (.pointer (some (a.add (n.toNat * j.size)))) w := by
  simp [Instr.indexAt, asIntOf, run_underlying hu, h0, h1, run_sizeOf' hj, Instr.sureAddr]
theorem run_fieldAt {t : TypeId} {fs : Array Field} {f : Nat} {g : Field} {j : TypeInfo} (hu : P.underlying t = some (.struct fs)) (hf : fs[f]? = some g) (hj : P.info? g.type = some j) (hs : j.size ≠ 0) {a : Addr} (w : World) :
    (Instr.fieldAt t (.pointer (some a)) f).run P w = .ok (.pointer (some (a.add g.offset))) w := by
  simp [Instr.fieldAt, run_underlying hu, hf, Instr.sureAddr, fieldPlace, run_sizeOf' hj, hs]
theorem run_part {t : TypeId} {n : Option Nat} (ht : cAgg P t = some n) {cs : List AVal} {c : Array Value} {o : Nat} {v : AVal} (h : partA n cs o = some v) (hc : VRs V μ cs c.toList) (w : World) :
    ∃ v', (part t c o).run P w = .ok v' w ∧ VR V μ v v' := by
  obtain ⟨d, i, hd, hi, hagg, hsz⟩ := cAgg_spec ht w
  unfold partA at h
  cases n with
  | none =>
    obtain ⟨u, hu, r⟩ := VRs_nth hc h
    refine ⟨u, ?_, r⟩
    simp only [part, Sem.run_bind, hagg, Result.andThen_ok, Option.isSome_none, Bool.false_eq_true, if_false]
    have : c[o]? = some u := by simpa using hu
    simp [this]
  | some n =>
    simp only [Option.map_eq_some_iff] at h
    obtain ⟨a, ha, rfl⟩ := h
    obtain ⟨rfl, hn⟩ := takeN_eq _ _ _ ha
    refine ⟨.agg (c.extract o (o + n)), ?_, ?_⟩
    · simp only [part, Sem.run_bind, hagg, Result.andThen_ok, Option.isSome_some, if_true, run_sizeOf' hi, hsz n rfl]; rfl
    · rw [VR]
      refine ⟨_, rfl, ?_⟩
      rw [dropN_eq]
      have := VRs_take n (VRs_drop o hc)
      rw [Array.toList_extract, List.extract_eq_take_drop]
      simpa using this
/-- slices of slices -/
theorem run_sliceSl {t e : TypeId} {j : TypeInfo} (hu : P.underlying t = some (.slice e)) (hj : P.info? e = some j) {id off len cap} {lo hi mx : Option AVal} {lo' hi' mx' : Option Value} {xv : Value} {r : AVal} (hx : VR V μ (.slice id off len cap j.size) xv)
    (h1 : VRo V μ lo lo') (h2 : VRo V μ hi hi') (h3 : VRo V μ mx mx')
    (h : sliceSlA j.size lo hi mx (.slice id off len cap j.size) = some r) (w : World) :
    ∃ v', (Instr.sliceAt t xv lo' hi' mx').run P w = .ok v' w ∧ VR V μ r v' := by
  simp only [sliceSlA, ne_eq, not_true_eq_false, if_false] at h
  obtain ⟨l, rc, o, hl, rfl, ha, hb⟩ := VR_slice hx
  have key : ∀ (ll tt mm : Nat), (Instr.sliceBounds true len rc lo' hi' mx').run P w = .ok (ll, tt, mm) w →
      (Instr.sliceAt t (.slice (some ⟨l.b, o, none⟩) len rc) lo' hi' mx').run P w = .ok (.slice (some ⟨l.b, if mm = ll then o else o + ll * j.size, none⟩) (tt - ll) (mm - ll)) w := by
    intro ll tt mm hh
    simp only [Instr.sliceAt, Instr.slice, Sem.run_bind, run_underlying hu, Result.andThen_ok, hh, run_sizeOf' hj]
    by_cases hm : mm = ll
    · simp [hm]
    · simp [hm, add_none]
  cases cap with
  | some c =>
    obtain ⟨rfl, rfl⟩ := ha c rfl
    simp only at h
    split at h
    · rename_i hle
      simp only [Option.map_eq_some_iff] at h
      obtain ⟨⟨ll, tt, mm⟩, hbd, rfl⟩ := h
      dsimp only
      obtain ⟨e1, e2, e3, e4⟩ := bounds_spec (P := P) hbd h1 h2 h3 true w hle
      refine ⟨_, key _ _ _ e1, VR_slice_mk hl (fun c hc => ?_) (fun hc => (by cases hc))⟩
      cases hc
      refine ⟨rfl, ?_⟩
      by_cases hm : mm = ll
      · simp [hm]
      · simp [hm, Nat.add_assoc]
    · simp at h
  | none =>
    have hb := hb rfl
    cases mx with
    | none =>
      simp only [Option.map_eq_some_iff] at h
      obtain ⟨⟨ll, tt, mm⟩, hbd, rfl⟩ := h
      dsimp only
      cases mx' with
      | some _ => simp [VRo] at h3
      | none =>
        have hle : len ≤ rc := by rcases hb with hb | hb <;> omega
        have hbd2 : bounds len rc lo hi none = some (ll, tt, rc) ∧ ll ≤ tt ∧ tt ≤ len := by
          obtain ⟨e1, e2, e3, e4⟩ := bounds_spec (P := P) hbd h1 h2 h3 true w (Nat.le_refl _)
          refine ⟨?_, e2, by omega⟩
          unfold bounds at hbd ⊢
          simp only [Option.bind_eq_bind, Option.bind_eq_some_iff, Option.pure_def, Option.some.injEq, Prod.mk.injEq] at hbd ⊢
          obtain ⟨m0, hm, t0, ht, l0, hl0, rfl, rfl, rfl⟩ := hbd
          cases hm
          refine ⟨rc, rfl, t0, ?_, l0, hl0, rfl, rfl, rfl⟩
          cases hi with
          | none => exact ht
          | some v =>
            simp only [bH] at ht ⊢
            unfold bnd at ht ⊢
            split at ht
            · split at ht
              · rename_i hh
                rw [if_pos (by omega)]; exact ht
              · simp at ht
            · simp at ht
        obtain ⟨hbd2, q1, q2⟩ := hbd2
        obtain ⟨e1, e2, e3, e4⟩ := bounds_spec (P := P) hbd2 h1 h2 h3 true w hle
        refine ⟨_, key _ _ _ e1, VR_slice_mk hl (fun c hc => (by cases hc)) (fun _ => ?_)⟩
        rcases hb with ⟨b1, b2, b3⟩ | ⟨b1, b2, b3⟩
        · by_cases hm : rc = ll
          · right
            refine ⟨by omega, by omega, ?_⟩
            rw [← b3, hm]; omega
          · left
            simp only [hm, if_false]
            refine ⟨by omega, by omega, ?_⟩
            have : rc = ll + (rc - ll) := by omega
            rw [← b3]
            conv => rhs; rw [this, Nat.add_mul]
            omega
        · right
          have : ll = 0 := by omega
          subst this
          refine ⟨by omega, by omega, by omega⟩
    | some v =>
      simp only at h
      split at h
      · simp at h
      · rename_i hne
        simp only [Option.map_eq_some_iff] at h
        obtain ⟨⟨ll, tt, mm⟩, hbd, rfl⟩ := h
        dsimp only
        rcases hb with ⟨b1, b2, b3⟩ | ⟨b1, b2, b3⟩
        · cases mx' with
          | none => simp [VRo] at h3
          | some v' =>
          have hbd2 : bounds len rc lo hi (some v) = some (ll, tt, mm) := by
            unfold bounds at hbd ⊢
            simp only [Option.bind_eq_bind, Option.bind_eq_some_iff, Option.pure_def, Option.some.injEq, Prod.mk.injEq] at hbd ⊢
            obtain ⟨m0, hm, t0, ht, l0, hl0, rfl, rfl, rfl⟩ := hbd
            refine ⟨m0, ?_, t0, ht, l0, hl0, rfl, rfl, rfl⟩
            simp only [bM] at hm ⊢
            unfold bnd at hm ⊢
            split at hm
            · split at hm
              · rename_i hh
                rw [if_pos (by omega)]; exact hm
              · simp at hm
            · simp at hm
          obtain ⟨e1, e2, e3, e4⟩ := bounds_spec (P := P) hbd2 h1 h2 h3 true w b1
          refine ⟨_, key _ _ _ e1, VR_slice_mk hl (fun c hc => ?_) (fun hc => (by cases hc))⟩
          cases hc
          refine ⟨rfl, ?_⟩
          by_cases hm : mm = ll
          · simp [hm, b2]
          · simp [hm, b2, Nat.add_assoc]
        · omega
end Go.Ev
namespace Go.Ev
open Go Go.RowKit
variable {V : Vn} {P : Program} {μ : Map}
theorem VRs_ofBytes : ∀ (l : List UInt8), VRs V μ (ofBytes l) (l.map fun b => Value.int .u8 b.toNat)
  | [] => VRs_nil
  | b :: r => VRs_cons (by rw [VR]) (VRs_ofBytes r)
theorem load_prefix {w : World} {l : Loc} {off : Nat} {us : List Value} (hc : ∀ (j : Nat) (u : Value), us[j]? = some u → w.cell? ⟨l.b, l.s + off + j, none⟩ = some u) {o n : Nat} (ho : us.length ≠ 0 → o = l.s + off) (hn : n ≤ us.length) :
    (loadCells ⟨l.b, o, none⟩ n).run P w = .ok (us.take n).toArray w := by
  have hl : (us.take n).length = n := by simp; omega
  have := run_loadCells_list (P := P) w ⟨l.b, o, none⟩ (us.take n) (fun j u hj => by
    simp [List.getElem?_take] at hj
    have hlen : us.length ≠ 0 := by
      intro h0
      have : us = [] := List.eq_nil_of_length_eq_zero h0
      rw [this] at hj; simp at hj
    rw [add_none, ho hlen]
    exact hc j u hj.2)
  rw [hl] at this
  exact this
theorem src_spec {h w} (k : HR V μ h w) {sz : Nat} {x : AVal} {new : List AVal} {n : Nat} {xv : Value} (e : srcCells h sz x = some (new, n)) (hx : VR V μ x xv) :
    ∃ us, VRs V μ new us ∧ us.length = n * sz ∧ (∀ w', (Builtin.lenOf xv).run P w' = .ok n w') ∧ ∀ m, m ≤ n → (Builtin.firstCells sz m xv).run P w = .ok (us.take (m * sz)).toArray w := by
  unfold srcCells at e
  split at e
  · cases e
    rw [VR] at hx; subst hx
    exact ⟨[], VRs_nil, by simp, fun _ => rfl, fun m hm => by simp [Builtin.firstCells]⟩
  · rename_i id off len c z
    split at e
    · rename_i hz
      subst hz
      simp only [Option.map_eq_some_iff, Prod.mk.injEq] at e
      obtain ⟨vs, hvs, rfl, rfl⟩ := e
      obtain ⟨l, rc, o, hl, rfl, ha, hb⟩ := VR_slice hx
      obtain ⟨l', us, hl', hu, hlen, hc⟩ := k.load hvs
      rw [hl] at hl'; cases hl'
      refine ⟨us, hu, hlen, fun _ => rfl, fun m hm => ?_⟩
      simp only [Builtin.firstCells]
      refine load_prefix hc (fun h0 => ?_) (by rw [hlen]; exact Nat.mul_le_mul_right _ hm)
      cases c with
      | some c => exact (ha c rfl).2
      | none =>
        rcases hb rfl with hb | hb
        · exact hb.2.1
        · rw [hlen, hb.1] at h0; simp at h0
    · simp at e
  · rename_i s
    split at e
    · rename_i hz
      subst hz
      cases e
      rw [VR] at hx
      obtain ⟨b, rfl, rfl⟩ := hx
      refine ⟨_, VRs_ofBytes _, by simp, fun _ => (by have e : b.size = b.data.toList.length := (by rw [Array.length_toList]; rfl); simp only [Builtin.lenOf, e, Sem.run_pure]), fun m hm => ?_⟩
      simp only [Builtin.firstCells, Sem.run_pure]
      congr 1
      apply Array.ext'
      simp [List.map_take]
    · simp at e
  · simp at e
theorem growBy_le (need c : Nat) : Builtin.growBy need 4 c ≤ 16 * c + 11520 := by
  simp only [Builtin.growBy]
  repeat' split
  all_goals omega
theorem next_le (need cap : Nat) (h : cap ≤ need) : Builtin.nextslicecap need cap ≤ 16 * need + 11520 := by
  unfold Builtin.nextslicecap
  split
  · omega
  · split
    · omega
    · have := growBy_le need cap
      omega
end Go.Ev
namespace Go.Ev
open Go Go.RowKit
variable {V : Vn} {P : Program} {μ : Map}
set_option maxHeartbeats 4000000 in
theorem append_fits {w w' : World} {sT xT elem ty : TypeId} {dx : TypeDesc} {i : TypeInfo} (hu : P.underlying sT = some (.slice elem)) (hi : P.info? elem = some i) (hx : P.underlying xT = some dx)
    (hd : ∀ k, dx ≠ .int k) {xv : Value} {n : Nat} {us : Array Value}
    (h1 : ∀ w', (Builtin.lenOf xv).run P w' = .ok n w') (h2 : (Builtin.firstCells i.size n xv).run P w = .ok us w)
    {base : Option Addr} {sLen sCap : Nat} (hfit : sLen + n ≤ sCap)
    (hst : ∀ a, base = some a → (storeCells (a.add (sLen * i.size)) us.toList).run P w = .ok () w') (hst0 : base = none → w' = w) :
    (Builtin.append_ #[sT, xT] ty #[.slice base sLen sCap, xv]).run P w = .ok (.slice base (sLen + n) sCap) w' := by
  cases base with
  | none =>
    rw [hst0 rfl]
    cases dx <;> first
      | exact absurd rfl (hd _)
      | simp [Builtin.append_, run_underlying hu, run_underlying hx, run_sizeOf' hi, h1, h2, hfit]
  | some a =>
    have := hst a rfl
    cases dx <;> first
      | exact absurd rfl (hd _)
      | simp [Builtin.append_, run_underlying hu, run_underlying hx, run_sizeOf' hi, h1, h2, hfit, this]
set_option maxHeartbeats 4000000 in
theorem append_grows {w : World} {sT xT elem ty : TypeId} {dx : TypeDesc} {i : TypeInfo} {z : Value} (hu : P.underlying sT = some (.slice elem)) (hi : P.info? elem = some i) (hz : i.zero = some z) (hx : P.underlying xT = some dx)
    (hd : ∀ k, dx ≠ .int k) {xv : Value} {n : Nat} {us os : Array Value}
    {base : Option Addr} {sLen sCap : Nat} (h1 : ∀ w', (Builtin.lenOf xv).run P w' = .ok n w') (h2 : (Builtin.firstCells i.size n xv).run P w.drew = .ok us w.drew)
    (h3 : (Builtin.firstCells i.size sLen (.slice base sLen sCap)).run P w.drew = .ok os w.drew)
    (hfit : ¬ sLen + n ≤ sCap) (hb : i.bytes ≠ 0) (hn : sLen + n ≤ 2 ^ 60) (hcap : Builtin.nextslicecap (sLen + n) sCap * i.bytes ≤ 2 ^ 48) :
    ∃ nc, sLen + n ≤ nc ∧ (Builtin.append_ #[sT, xT] ty #[.slice base sLen sCap, xv]).run P w = .ok (.slice (some ⟨w.heap.size, 0, none⟩) (sLen + n) nc) (w.drew.alloc (.cells (os ++ us ++ Builtin.zeroCells z.cells (nc - (sLen + n))) elem)) := by
  refine ⟨Question.cut (.appendCap (sLen + n) sCap elem) (w.tape w.drawn (.appendCap (sLen + n) sCap elem)), Nat.le_add_right _ _, ?_⟩
  have hf : (Question.appendCap (sLen + n) sCap elem).forced = false := rfl
  have e1 : ¬ (((sLen + n : Nat) : Int) > IntKind.i64.max ∧ (false = true ∨ i.bytes = 0)) := by
    rintro ⟨a, b⟩
    rcases b with b | b
    · cases b
    · exact hb b
  have e2 : ¬ Builtin.nextslicecap (sLen + n) sCap * i.bytes > 2 ^ 48 := by omega
  have e3 : ¬ 281474976710656 < Builtin.nextslicecap (sLen + n) sCap * i.bytes := by omega
  cases dx <;> first
    | exact absurd rfl (hd _)
    | (simp [Builtin.append_, run_underlying hu, run_underlying hx, run_sizeOf' hi, run_typeInfo' hi, run_zeroValue' hi hz, h1, h2, h3, hfit, hf, hb, askRoom, e3, newRow]
       done)
theorem wrap_i64 (n : Nat) (h : n ≤ 2 ^ 40) : IntKind.i64.wrap (n : Int) = n := wrap_in _ _ (by simp [IntKind.min, IntKind.max, IntKind.signed, IntKind.bits]; omega)
theorem wrap_zero : IntKind.i64.wrap 0 = 0 := by decide
set_option maxHeartbeats 4000000 in
theorem appendN_fits {w w' : World} {sT xT elem ty : TypeId} {kx kv : IntKind} {i : TypeInfo} {z : Value} (hu : P.underlying sT = some (.slice elem)) (hi : P.info? elem = some i) (hz : i.zero = some z) (hx : P.underlying xT = some (.int kx))
    {n : Nat} (hn : n ≤ 2 ^ 40) (hnb : n * i.bytes ≤ 2 ^ 40) {us : Array Value} (hus : us = Builtin.zeroCells z.cells n) (hsz : i.size ≠ 0)
    {base : Option Addr} {sLen sCap : Nat} (hfit : sLen + n ≤ sCap)
    (hst : ∀ a, base = some a → (storeCells (a.add (sLen * i.size)) us.toList).run P w = .ok () w') (hst0 : base = none → w' = w) :
    (Builtin.append_ #[sT, xT] ty #[.slice base sLen sCap, .int kv n]).run P w = .ok (.slice base (sLen + n) sCap) w' := by
  have hw : IntKind.i64.wrap (n : Int) = n := wrap_i64 n hn
  have h1 : ¬ (n : Int) < 0 := by omega
  have h2 : ¬ (281474976710656 : Int) < (n : Int) * (i.bytes : Int) := by
    have : ((n * i.bytes : Nat) : Int) = (n : Int) * i.bytes := by simp
    omega
  by_cases h0 : n = 0
  · subst h0
    have hus0 : us = #[] := by rw [hus]; simp [Builtin.zeroCells]
    subst hus0
    rw [Nat.add_zero] at hfit
    cases base with
    | none =>
      rw [hst0 rfl]
      simp [Builtin.append_, run_underlying hu, run_underlying hx, run_sizeOf' hi, run_typeInfo' hi, asInt, asIntOf, wrap_zero, hfit]
    | some a =>
      have := hst a rfl
      simp at this
      simp [Builtin.append_, run_underlying hu, run_underlying hx, run_sizeOf' hi, run_typeInfo' hi, asInt, asIntOf, wrap_zero, hfit, this]
  · have h3 : n * i.size ≠ 0 := Nat.mul_ne_zero h0 hsz
    cases base with
    | none =>
      rw [hst0 rfl]
      simp [Builtin.append_, run_underlying hu, run_underlying hx, run_sizeOf' hi, run_typeInfo' hi, asInt, asIntOf, hw, h1, h2, hfit, h0, hsz, run_zeroValue' hi hz]
    | some a =>
      have := hst a rfl
      rw [hus] at this
      simp [Builtin.append_, run_underlying hu, run_underlying hx, run_sizeOf' hi, run_typeInfo' hi, asInt, asIntOf, hw, h1, h2, hfit, h0, hsz, run_zeroValue' hi hz, this]
      intro hh
      exact absurd hh h3
set_option maxHeartbeats 4000000 in
theorem appendN_grows {w : World} {sT xT elem ty : TypeId} {kx kv : IntKind} {i : TypeInfo} {z : Value} (hu : P.underlying sT = some (.slice elem)) (hi : P.info? elem = some i) (hz : i.zero = some z) (hx : P.underlying xT = some (.int kx))
    {n : Nat} (hn0 : n ≤ 2 ^ 40) (hnb : n * i.bytes ≤ 2 ^ 40) {us os : Array Value} (hus : us = Builtin.zeroCells z.cells n) (hsz : i.size ≠ 0)
    {base : Option Addr} {sLen sCap : Nat}
    (h3 : (Builtin.firstCells i.size sLen (.slice base sLen sCap)).run P w.drew = .ok os w.drew)
    (hfit : ¬ sLen + n ≤ sCap) (hb : i.bytes ≠ 0) (hn : sLen + n ≤ 2 ^ 60) (hcap : Builtin.nextslicecap (sLen + n) sCap * i.bytes ≤ 2 ^ 48) :
    ∃ nc, sLen + n ≤ nc ∧ (Builtin.append_ #[sT, xT] ty #[.slice base sLen sCap, .int kv n]).run P w = .ok (.slice (some ⟨w.heap.size, 0, none⟩) (sLen + n) nc) (w.drew.alloc (.cells (os ++ us ++ Builtin.zeroCells z.cells (nc - (sLen + n))) elem)) := by
  refine ⟨Question.cut (.appendCap (sLen + n) sCap elem) (w.tape w.drawn (.appendCap (sLen + n) sCap elem)), Nat.le_add_right _ _, ?_⟩
  have hf : (Question.appendCap (sLen + n) sCap elem).forced = false := rfl
  have hw : IntKind.i64.wrap (n : Int) = n := wrap_i64 n hn0
  have h1 : ¬ (n : Int) < 0 := by omega
  have h2 : ¬ (281474976710656 : Int) < (n : Int) * (i.bytes : Int) := by
    have : ((n * i.bytes : Nat) : Int) = (n : Int) * i.bytes := by simp
    omega
  have e0 : ¬ (9223372036854775807 : Int) < (sLen : Int) + (n : Int) := by omega
  have e3 : ¬ 281474976710656 < Builtin.nextslicecap (sLen + n) sCap * i.bytes := by omega
  by_cases h0 : n = 0
  · subst h0
    have hus0 : us = #[] := by rw [hus]; simp [Builtin.zeroCells]
    subst hus0
    rw [Nat.add_zero] at hfit e3 hf
    have e0' : ¬ (9223372036854775807 : Int) < (sLen : Int) := by omega
    simp [Builtin.append_, run_underlying hu, run_underlying hx, run_sizeOf' hi, run_typeInfo' hi, run_zeroValue' hi hz, asInt, asIntOf, wrap_zero, h3, hfit, hf, hb, askRoom, e0', e3, newRow]
  · have h4 : n * i.size ≠ 0 := Nat.mul_ne_zero h0 hsz
    simp [Builtin.append_, run_underlying hu, run_underlying hx, run_sizeOf' hi, run_typeInfo' hi, run_zeroValue' hi hz, asInt, asIntOf, hw, h1, h2, h3, hfit, hf, hb, askRoom, e0, e3, newRow, h0, hsz, hus]
    intro hh
    exact absurd hh h4
end Go.Ev
namespace Go.Ev
open Go Go.RowKit
variable {V : Vn} {P : Program} {μ : Map}
theorem HR.drew {h w} (k : HR V μ h w) : HR V μ h w.drew := k.drawn _
theorem Ext.drew (μ : Map) (h : Hp) (w : World) : Ext μ h w μ h w.drew := Ext.drawn _ _ _ _
theorem tooBig_aux (need : Nat) : 16 * need + 11520 ≤ 3 * (8 * need + 4096) := by omega
theorem tooBig_spec {bytes need c : Nat} (h : tooBig bytes need = false) (hb : bytes ≠ 0) (hc : c ≤ need) : need ≤ 2 ^ 60 ∧ Builtin.nextslicecap need c * bytes ≤ 2 ^ 48 := by
  unfold tooBig at h
  simp only [decide_eq_false_iff_not, Nat.not_lt] at h
  have h1 := Nat.mul_le_mul_left (8 * need + 4096) (Nat.one_le_iff_ne_zero.2 hb)
  have h2 := Nat.mul_le_mul_right bytes (next_le need c hc)
  have h3 := Nat.mul_le_mul_right bytes (tooBig_aux need)
  rw [Nat.mul_assoc] at h3
  constructor <;> omega
/-- a new row of cells of which the first are known -/
theorem Good.newOpen {h w} (k : HR V μ h w) {cs : List AVal} {us : Array Value} {rest : Array Value} {sz need nc : Nat} (e : TypeId) (hv : VRs V μ cs us.toList) {r : Result Value}
    (hl : us.size = need * sz) (hrest : rest.size = (nc - need) * sz) (hn : need ≤ nc)
    (hr : r = .ok (.slice (some ⟨w.heap.size, 0, none⟩) need nc) (w.drew.alloc (.cells (us ++ rest) e))) :
    Good V μ h w r (.slice (h.alloc (.cells cs false)).1 0 need none sz) (h.alloc (.cells cs false)).2 := by
  have hcl : cs.length = us.size := by rw [hv.length, Array.length_toList]
  have hh : (us ++ rest).toList.take cs.length = us.toList := by
    rw [Array.toList_append, List.take_append_of_le_length (by rw [Array.length_toList]; exact Nat.le_of_eq hcl), hcl, ← Array.length_toList, List.take_length]
  obtain ⟨a, b⟩ := k.drew.allocCells (c := us ++ rest) e (by rw [hh]; exact hv)
  refine ⟨_, _, _, hr, VR_slice_mk (cap := none) (Map.add_same _ _ _) (fun c hc => (by cases hc)) (fun _ => .inl ⟨hn, by simp, ?_⟩), a, (Ext.drew _ _ _).trans b⟩
  simp only [Array.size_append, hl, hrest, Nat.zero_add]
  rw [← Nat.add_mul]
  congr 1; omega
theorem zeroCells_size (z : Array Value) (n : Nat) : (Builtin.zeroCells z n).size = n * z.size := by simp [Builtin.zeroCells]
theorem allOne_take : ∀ (l : List AVal), allOne l = true → ∀ n, allOne (l.take n) = true
  | [], _, n => by simp [allOne]
  | x :: xs, h, 0 => by simp [allOne]
  | x :: xs, h, n + 1 => by simp [allOne] at h ⊢; exact ⟨h.1, allOne_take xs h.2 n⟩
/-- A block goes, and another one begins in its cells from a place on. -/
theorem HR.moved {h w w'} (k : HR V μ h w) {id : Pos} {a : ABlk} {l : Loc} (hg : h.t.get id = some a) (ha : a.ro = false) (hl : μ id = some l) (b : ABlk) (hbr : b.ro = false) (s : Nat) (hb : BR V μ w' b ⟨l.b, s, l.m⟩)
    (ho : ∀ i, i ≠ l.b → w'.heap[i]? = w.heap[i]?) (hs : w'.heap.size = w.heap.size) (hos : w'.os = w.os) (ht : w'.tape = w.tape) (hout : w'.output = w.output) :
    HR V (μ.add h.nx ⟨l.b, s, l.m⟩) { t := (h.t.del id).set b h.nx, nx := h.nx.succ } w' ∧ Ext μ h w (μ.add h.nx ⟨l.b, s, l.m⟩) { t := (h.t.del id).set b h.nx, nx := h.nx.succ } w' := by
  have hfr : μ h.nx = none := k.fresh h.nx (Nat.le_refl _)
  have old : ∀ i c, (h.t.del id).get i = some c → i ≠ id ∧ h.t.get i = some c := fun i c e => by
    by_cases hi : i = id
    · subst hi; rw [PT.get_del] at e; cases e
    · rw [PT.get_del_ne _ _ _ (Ne.symm hi)] at e; exact ⟨hi, e⟩
  have base : HR V μ { h with t := h.t.del id } w' := by
    refine ⟨?_, ?_, k.fresh, fun i j e => by rw [hs]; exact k.inW i j e⟩
    · intro i c hc
      obtain ⟨hi, hc⟩ := old i c hc
      obtain ⟨m, hm, r⟩ := k.blk i c hc
      exact ⟨m, hm, BR.world (ho _ (k.apart i id c a m l hc hg hm hl hi)) r⟩
    · intro i j c d m n hc hd
      exact k.apart i j c d m n (old i c hc).2 (old j d hd).2
  have hh := HR.add (h := h) (w' := w') (h.t.del id) ⟨l.b, s, l.m⟩ b base hb (by rw [hs]; exact k.inW id l hl) (fun i c m hc hm => by
    obtain ⟨hi, hc⟩ := old i c hc
    exact k.apart i id c a m l hc hg hm hl hi)
  refine ⟨hh, ⟨Map.add_le hfr _, by omega, ?_, hos, ht, hout, (by simp only [Pos.toNat_succ]; omega), fun i hi => (by simp only [Map.add]; rw [if_neg (fun e => by subst e; omega)])⟩⟩
  intro i hi hw
  have hne : i ≠ l.b := fun e => hw ⟨id, a, l, hg, ha, hl, e.symm⟩
  refine ⟨ho i hne, ?_⟩
  rintro ⟨j, c, m, hc, hcr, hm, he⟩
  by_cases hj : j = h.nx
  · subst hj
    rw [Map.add_same] at hm; cases hm
    exact hne he.symm
  · simp only [PT.get_set_ne _ _ _ _ (Ne.symm hj)] at hc
    simp [Map.add, hj] at hm
    exact hw ⟨j, c, m, (old j c hc).2, hcr, hm, he⟩
/-- A block that goes. -/
theorem HR.gone {h w} (k : HR V μ h w) (id : Pos) : HR V μ { h with t := h.t.del id } w ∧ Ext μ h w μ { h with t := h.t.del id } w := by
  have old : ∀ i c, (h.t.del id).get i = some c → h.t.get i = some c := fun i c e => by
    by_cases hi : i = id
    · subst hi; rw [PT.get_del] at e; cases e
    · rw [PT.get_del_ne _ _ _ (Ne.symm hi)] at e; exact e
  refine ⟨⟨fun i c hc => k.blk i c (old i c hc), fun i j c d m n hc hd => k.apart i j c d m n (old i c hc) (old j d hd), k.fresh, k.inW⟩, ⟨.refl _, Nat.le_refl _, fun b hb hw => ⟨rfl, ?_⟩, rfl, rfl, rfl, Nat.le_refl _, fun _ _ => rfl⟩⟩
  rintro ⟨j, c, m, hc, r⟩
  exact hw ⟨j, c, m, old j c hc, r⟩
set_option maxHeartbeats 1000000 in
theorem good_append_gen {h w} (k : HR V μ h w) {elem : TypeId} {i : TypeInfo} {zv : Value} (hzs : zv.cells.size = i.size)
    (hb : i.bytes ≠ 0) (hsz : i.size ≠ 0) {s r : AVal} {sv : Value} {h' : Hp} {new : List AVal} {n : Nat} (hs : VR V μ s sv) {us us' : List Value} (hus : VRs V μ new us) (hul : us.length = n * i.size) (hus' : VRs V μ new us') (hul' : us'.length = n * i.size) (R : Value → Result Value)
    (Hfit : ∀ {base : Option Addr} {sLen sCap : Nat} {w' : World}, sLen + n ≤ sCap → (∀ a, base = some a → (storeCells (a.add (sLen * i.size)) us).run P w = .ok () w') → (base = none → w' = w) → R (.slice base sLen sCap) = .ok (.slice base (sLen + n) sCap) w')
    (Hgrow : ∀ {base : Option Addr} {sLen sCap : Nat} {os : Array Value}, (Builtin.firstCells i.size sLen (.slice base sLen sCap)).run P w.drew = .ok os w.drew → ¬ sLen + n ≤ sCap → sLen + n ≤ 2 ^ 60 → Builtin.nextslicecap (sLen + n) sCap * i.bytes ≤ 2 ^ 48 →
      ∃ nc, sLen + n ≤ nc ∧ R (.slice base sLen sCap) = .ok (.slice (some ⟨w.heap.size, 0, none⟩) (sLen + n) nc) (w.drew.alloc (.cells (os ++ us'.toArray ++ Builtin.zeroCells zv.cells (nc - (sLen + n))) elem)))
    (e : appendA h i.size i.bytes s new n = some (r, h')) :
    Good V μ h w (R sv) r h' := by
  have hnew : new.length = n * i.size := by rw [hus.length, hul]
  unfold appendA at e
  split at e
  · -- nil
    rw [VR] at hs; subst hs
    split at e
    · rename_i hn
      cases e
      subst hn
      have hnil : us = [] := List.eq_nil_of_length_eq_zero (by rw [hul]; simp)
      refine Good.pure k (v' := .slice none 0 0) ?_ (by rw [VR])
      exact Hfit (by simp) (fun a ha => by cases ha) (fun _ => rfl)
    · rename_i hn
      split at e
      · simp at e
      · rename_i hbig
        cases e
        obtain ⟨b1, b2⟩ := tooBig_spec (c := 0) (by simpa using hbig) hb (Nat.zero_le _)
        obtain ⟨nc, hnc, hr⟩ := Hgrow (os := #[]) (base := none) (sLen := 0) (sCap := 0) (by simp [Builtin.firstCells]) (by omega) (by simpa using b1) (by simpa using b2)
        refine Good.newOpen k (us := us'.toArray) (rest := Builtin.zeroCells zv.cells (nc - n)) (nc := nc) elem (by simpa using hus') (by simpa using hul') (by rw [zeroCells_size, hzs]) (by omega) ?_
        simpa using hr
  · rename_i id off len cap z0
    split at e
    · simp at e
    · rename_i hz0
      have hz0 : z0 = i.size := by simpa using hz0
      subst hz0
      obtain ⟨l, rc, o, hl, rfl, ha, hbb⟩ := VR_slice hs
      cases cap with
      | some c =>
        obtain ⟨rfl, rfl⟩ := ha c rfl
        simp only at e
        split at e
        · rename_i hfit
          split at e
          · rename_i hn
            cases e
            subst hn
            have hnil : us = [] := List.eq_nil_of_length_eq_zero (by rw [hul]; simp)
            subst hnil
            exact Good.pure k (Hfit hfit (fun a ha => rfl) (fun h => by cases h)) hs
          · rename_i hn
            simp only [Option.map_eq_some_iff, Prod.mk.injEq] at e
            obtain ⟨h1, hst, rfl, rfl⟩ := e
            have hne : new ≠ [] := fun h0 => Nat.mul_ne_zero hn hsz (by rw [← hnew, h0]; rfl)
            obtain ⟨l', hl', hrun, hr, he⟩ := k.store hst hne hus
            rw [hl] at hl'; cases hl'
            refine ⟨_, _, μ, Hfit hfit (fun a ha => ?_) (fun h => by cases h), ?_, hr, he⟩
            · cases ha
              rw [add_none, Nat.add_assoc]
              exact hrun P
            · exact VR_slice_mk hl (fun c hc => by cases hc; exact ⟨rfl, rfl⟩) (fun h => by cases h)
        · rename_i hfit
          split at e
          · simp at e
          · rename_i hbig
            split at e
            · simp at e
            · rename_i old hold
              cases e
              obtain ⟨l', os, hl', hos, hosl, hoc⟩ := k.drew.load hold
              rw [hl] at hl'; cases hl'
              obtain ⟨b1, b2⟩ := tooBig_spec (c := rc) (by simpa using hbig) hb (by omega)
              have hlp := load_prefix (P := P) hoc (o := l.s + off) (n := os.length) (fun _ => rfl) (Nat.le_refl _)
              rw [List.take_length, hosl] at hlp
              obtain ⟨nc, hnc, hr⟩ := Hgrow (os := os.toArray) (base := some ⟨l.b, l.s + off, none⟩) (sLen := len) (sCap := rc) (by simpa [Builtin.firstCells] using hlp) hfit b1 b2
              refine Good.newOpen k (us := os.toArray ++ us'.toArray) (rest := Builtin.zeroCells zv.cells (nc - (len + n))) (nc := nc) elem (by simpa using VRs_append hos hus') (by simp [hosl, hul', Nat.add_mul]) (by rw [zeroCells_size, hzs]) hnc hr
      | none =>
        have hbb := hbb rfl
        simp only at e
        split at e
        · rename_i hn
          cases e
          subst hn
          have hnil : us = [] := List.eq_nil_of_length_eq_zero (by rw [hul]; simp)
          subst hnil
          exact Good.pure k (Hfit (by rcases hbb with hbb | hbb <;> omega) (fun a ha => rfl) (fun h => by cases h)) hs
        · rename_i hn
          have hne : new ≠ [] := fun h0 => Nat.mul_ne_zero hn hsz (by rw [← hnew, h0]; rfl)
          split at e
          · rename_i cs hg
            obtain ⟨lb, c, t, lo, hi', p, q, hcm, hsl, hcs, hfz⟩ := k.cells hg
            rw [hl] at p; cases p
            split at e
            · rename_i hin
              simp only [Option.map_eq_some_iff, Prod.mk.injEq] at e
              obtain ⟨h1, hst, rfl, rfl⟩ := e
              obtain ⟨l', hl', hrun, hr, he⟩ := k.store hst hne hus
              rw [hl] at hl'; cases hl'
              have hpos : 0 < n * i.size := Nat.mul_pos (by omega) (by omega)
              rcases hbb with ⟨b1, b2, b3⟩ | ⟨b1, b2, b3⟩
              · subst b2
                have hfit : len + n ≤ rc := by
                  have h5 : (len + n) * i.size ≤ rc * i.size := by rw [Nat.add_mul]; omega
                  exact Nat.le_of_mul_le_mul_right h5 (by omega)
                refine ⟨_, _, μ, Hfit hfit (fun a ha => ?_) (fun h => by cases h), ?_, hr, he⟩
                · cases ha
                  rw [add_none, Nat.add_assoc]
                  exact hrun P
                · exact VR_slice_mk hl (fun c hc => by cases hc) (fun _ => .inl ⟨hfit, rfl, b3⟩)
              · exfalso; subst b1; omega
            · rename_i hin
              split at e
              · simp at e
              · rename_i hend
                have hend : off + len * i.size = cs.length := by simpa using hend
                split at e
                · simp at e
                · rename_i hbig
                  simp only [Bool.or_eq_true, not_or, Bool.not_eq_true, Bool.not_eq_false'] at hbig
                  obtain ⟨hbig, hone⟩ := hbig
                  cases e
                  have hold : VRs V μ (dropN off cs) (((c.toList.drop l.s).take cs.length).drop off) := by rw [dropN_eq]; exact VRs_drop off hcs
                  by_cases hfit : len + n ≤ rc
                  · -- in place
                    rcases hbb with ⟨b1, b2, b3⟩ | ⟨b1, b2, b3⟩
                    · subst b2
                      have hm : l.s + off + (len + n) * i.size ≤ l.m := by
                        rw [← b3]
                        exact Nat.add_le_add_left (Nat.mul_le_mul_right _ hfit) _
                      rw [Nat.add_mul] at hm
                      have hf := hfz rfl
                      have hsz2 : us.length = n * i.size := hul
                      obtain ⟨c', hc', hc2'⟩ := setCells_heap l.b us (l.s + off + len * i.size) w c t (lo, hi') q (by omega)
                      obtain ⟨r1, r2, r3, r4⟩ := setCells_rest l.b us (l.s + off + len * i.size) w
                      have hcl : c.toList.length = l.m := by simp [hcm]
                      have hst : (storeCells ((⟨l.b, l.s + off, none⟩ : Addr).add (len * i.size)) us).run P w = .ok () (w.setCells l.b (l.s + off + len * i.size) us) := by
                        rw [add_none]
                        have := run_storeCells_cells (P := P) l.b (l.s + off + len * i.size) us 0 w (fun j hj => ?_) (fun j hj => ?_) (VRs_one hus hone)
                        · simpa using this
                        · have : l.s + off + len * i.size + j < c.size := by omega
                          simp [World.cell?, q, this]
                        · simp only [World.frozen?, q]
                          rcases hf with hf | hf <;> (simp; omega)
                      have hBR : BR V μ (w.setCells l.b (l.s + off + len * i.size) us) (.cells (dropN off cs ++ new) false) ⟨l.b, l.s + off, l.m⟩ := by
                        refine ⟨c', t, lo, hi', hc', ?_, ?_, ?_, fun _ => hf⟩
                        · have := congrArg List.length hc2'
                          simp at this
                          show c'.size = l.m
                          omega
                        · rw [dropN_eq]; simp; omega
                        · rw [hc2']
                          have e3 : ((c.toList.take (l.s + off + len * i.size) ++ us ++ c.toList.drop (l.s + off + len * i.size + us.length)).drop (l.s + off)).take (dropN off cs ++ new).length =
                              (((c.toList.drop l.s).take cs.length).drop off) ++ us := by
                            rw [dropN_eq]
                            apply List.ext_getElem?
                            intro j
                            have hL : (List.drop off cs ++ new).length = len * i.size + n * i.size := by simp; omega
                            rw [hL]
                            simp only [List.getElem?_take, List.getElem?_drop, List.getElem?_append, List.length_append, List.length_take, List.length_drop, hcl]
                            by_cases hj1 : j < len * i.size
                            · have h5 : j < len * i.size + n * i.size := by omega
                              have h6 : l.s + off + j < min (l.s + off + len * i.size) l.m := by omega
                              have h7 : l.s + off + j < min (l.s + off + len * i.size) l.m + us.length := by omega
                              have h8 : j < min cs.length (l.m - l.s) - off := by omega
                              have h9 : off + j < cs.length := by omega
                              have h10 : l.s + off + j < l.s + off + len * i.size := by omega
                              simp only [h5, h6, h7, h8, h9, h10, if_true]
                              rw [Nat.add_assoc]
                            · by_cases hj2 : j < len * i.size + n * i.size
                              · have h6 : ¬ l.s + off + j < min (l.s + off + len * i.size) l.m := by omega
                                have h7 : l.s + off + j < min (l.s + off + len * i.size) l.m + us.length := by omega
                                have h8 : ¬ j < min cs.length (l.m - l.s) - off := by omega
                                have h9 : l.s + off + j - min (l.s + off + len * i.size) l.m = j - (min cs.length (l.m - l.s) - off) := by omega
                                simp only [hj2, h6, h7, h8, h9, if_true, if_false]
                              · have h8 : ¬ j < min cs.length (l.m - l.s) - off := by omega
                                have h9 : us[j - (min cs.length (l.m - l.s) - off)]? = none := by
                                  apply List.getElem?_eq_none; omega
                                simp only [hj2, h8, h9, if_false]
                          rw [e3]
                          exact VRs_append hold hus
                      obtain ⟨g1, g2⟩ := k.moved hg rfl hl (.cells (dropN off cs ++ new) false) rfl (l.s + off) hBR (setCells_other l.b us _ w) r1 r2 r3 r4
                      refine ⟨_, _, _, Hfit hfit (fun a ha => by cases ha; exact hst) (fun h => by cases h), ?_, g1, g2⟩
                      have hv := VR_slice_mk (V := V) (sz := i.size) (off := 0) (len := len + n) (cap := none) (rc := rc) (o := l.s + off) (l := ⟨l.b, l.s + off, l.m⟩) (Map.add_same μ h.nx ⟨l.b, l.s + off, l.m⟩) (fun c hc => by cases hc) (fun _ => .inl ⟨hfit, rfl, by simpa using b3⟩)
                      exact hv
                    · exfalso; omega
                  · -- anew
                    have hcr : rc ≤ len + n := by omega
                    obtain ⟨b1, b2⟩ := tooBig_spec (c := rc) hbig hb hcr
                    have hosl : (((c.toList.drop l.s).take cs.length).drop off).length = len * i.size := by
                      have := hold.length
                      rw [dropN_eq] at this; simp at this ⊢; omega
                    generalize hos : ((c.toList.drop l.s).take cs.length).drop off = os at hold hosl
                    have hoc : ∀ (j : Nat) (u : Value), os[j]? = some u → w.drew.cell? ⟨l.b, l.s + off + j, none⟩ = some u := by
                      intro j u hu'
                      rw [← hos] at hu'
                      have q' : w.drew.heap[l.b]? = some (.cells c t (lo, hi')) := q
                      simp only [World.cell?, q']
                      simp [List.getElem?_take, List.getElem?_drop] at hu'
                      simp [Nat.add_assoc, hu'.2]
                    have ho : os.length ≠ 0 → o = l.s + off := fun h0 => by
                      rcases hbb with hbb | hbb
                      · exact hbb.2.1
                      · rw [hosl, hbb.1] at h0; simp at h0
                    have hlp := load_prefix (P := P) hoc (o := o) (n := os.length) ho (Nat.le_refl _)
                    rw [List.take_length, hosl] at hlp
                    obtain ⟨nc, hnc, hr⟩ := Hgrow (os := os.toArray) (base := some ⟨l.b, o, none⟩) (sLen := len) (sCap := rc) (by simpa [Builtin.firstCells] using hlp) hfit b1 b2
                    obtain ⟨g1, g2⟩ := k.gone id
                    obtain ⟨v', w', μ', p1, p2, p3, p4⟩ := Good.newOpen g1 (us := os.toArray ++ us'.toArray) (rest := Builtin.zeroCells zv.cells (nc - (len + n))) (nc := nc) (sz := i.size) (need := len + n) elem (by simpa using VRs_append hold hus') (by simp [hosl, hul', Nat.add_mul]) (by rw [zeroCells_size, hzs]) hnc hr
                    exact ⟨v', w', μ', p1, p2, p3, g2.trans p4⟩
          · simp at e
  · simp at e
theorem good_append {h w} (k : HR V μ h w) {sT xT elem ty : TypeId} {dx : TypeDesc} {i : TypeInfo} {z : AVal} (hu : P.underlying sT = some (.slice elem)) (hi : P.info? elem = some i) (hz : cZero P elem = some z) (hzl : z.cells.length = i.size)
    (hx : P.underlying xT = some dx) (hd : ∀ k, dx ≠ .int k) (hb : i.bytes ≠ 0) (hsz : i.size ≠ 0) {s x r : AVal} {sv xv : Value} {h' : Hp} {new : List AVal} {n : Nat} (hs : VR V μ s sv) (hxv : VR V μ x xv)
    (e1 : srcCells h i.size x = some (new, n)) (e : appendA h i.size i.bytes s new n = some (r, h')) :
    Good V μ h w ((Builtin.append_ #[sT, xT] ty #[sv, xv]).run P w) r h' := by
  obtain ⟨us, hus, hul, hcnt, hcells⟩ := src_spec (P := P) k e1 hxv
  obtain ⟨us', hus', hul', _, hcells'⟩ := src_spec (P := P) k.drew e1 hxv
  have hc1 := hcells n (Nat.le_refl _)
  rw [← hul, List.take_length] at hc1
  have hc2 := hcells' n (Nat.le_refl _)
  rw [← hul', List.take_length] at hc2
  obtain ⟨iz, zv, hiz, hzz, hzc⟩ := cZero_spec hz
  rw [hi] at hiz; cases hiz
  have hzs : zv.cells.size = i.size := by
    have := (VR_cells (V := V) (μ := μ) (VR_ofConst hzc)).length
    exact (Array.length_toList).symm.trans (this.symm.trans hzl)
  exact good_append_gen k hzs hb hsz hs hus hul hus' hul' (fun sv => (Builtin.append_ #[sT, xT] ty #[sv, xv]).run P w)
    (fun hfit hst h0 => append_fits (us := us.toArray) hu hi hx hd hcnt hc1 hfit hst h0)
    (fun h3 hf hn hc => append_grows (us := us'.toArray) hu hi hzz hx hd hcnt hc2 h3 hf hb hn hc) e
end Go.Ev
