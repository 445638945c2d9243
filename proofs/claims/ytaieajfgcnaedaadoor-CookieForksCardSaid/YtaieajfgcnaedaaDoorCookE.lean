/-
  LAYER 6, WALKS: (*cookie.Keys).Open.
-/
import Derived.Test.YtaieajfgcnaedaaDoorCookD
import Derived.StillTailTactics
set_option linter.unusedVariables false
set_option linter.unusedSimpArgs false
namespace Go.Proofs.YtaieajfgcnaedaaDoor
open Go.RowKit

theorem results_cell_tmp {P : Program} {fn : Func} {p q : Tmp} {ty : TypeId} (h : fn.results = #[.cell p ty, .tmp q]) (tmps : Array Value) (w : World) (g : Nat) (t : TypeId) (cs : Array Value) (fr : Nat × Nat) (d : TypeDesc)
    (hp : tmps.getD p undef = .pointer (some ⟨g, 0, none⟩)) (hg : w.heap[g]? = some (.cells cs t fr)) (v : Value) (hv : tmps.getD q undef = v)
    (hu : P.underlying ty = some d) (hd : (match d with | .struct _ | .array _ _ => true | _ => false) = true) (hi : (P.info? ty).map (·.size) = some cs.size) :
    (results fn tmps).run P w = .ok (.tuple #[.agg cs, v]) w := by
  have hp' : tmps[p]?.getD undef = .pointer (some ⟨g, 0, none⟩) := by simpa using hp
  have hv' : tmps[q]?.getD undef = v := by simpa using hv
  simp [results, h, hp', hv', asAddr, run_loadVar_row w g t ty cs fr d hg hu hd hi]
theorem numAt_range (bs : List Int) (p n : Nat) (h : Bytes bs) : 0 ≤ numAt bs p n ∧ numAt bs p n < 256 ^ n := by
  have h1 := numI_range _ ((bs.drop p).take n) rfl ((bytes_take (bytes_drop h p) n))
  have h2 : ((bs.drop p).take n).length ≤ n := by rw [List.length_take]; omega
  refine ⟨h1.1, Int.lt_of_lt_of_le h1.2 ?_⟩
  have h3 : 256 ^ ((bs.drop p).take n).length ≤ 256 ^ n := Nat.pow_le_pow_right (by decide) h2
  have h4 := Int.ofNat_le.2 h3
  rw [Int.natCast_pow, Int.natCast_pow] at h4
  exact h4
/-- What stands still while the closure reads on. -/
structure Nx (w n : World) (G gb ob cb p : Nat) (bs : List Int) : Prop where
  c4 : Cell n w.heap.size 22 (.slice (some ⟨gb, ob, none⟩) 84 cb)
  c8 : Cell n G 3 (.int .i64 p)
  rd : Rd n .u8 (some ⟨gb, ob, none⟩) bs
  row : n.heap[w.heap.size + 1]? = some (.cells #[Value.int IntKind.i64 0, Value.int IntKind.i64 0, Value.int IntKind.u16 0, Value.int IntKind.u16 0, Value.int IntKind.u32 0, Value.int IntKind.u32 0, Value.int IntKind.u32 0, Value.int IntKind.u32 0, Value.int IntKind.u32 0, Value.int IntKind.u16 0, Value.int IntKind.u16 0, Value.int IntKind.u32 0, Value.int IntKind.u32 0] 40 (0, 0))
  bel : Below w.heap.size w n
  low : gb < w.heap.size
  big : w.heap.size + 1 < G
theorem Nx.below {w n n' : World} {G gb ob cb p : Nat} {bs : List Int} (h : Nx w n G gb ob cb p bs) (hb : Below n.heap.size n n') : Nx w n' G gb ob cb p bs :=
  ⟨(hb.block _ h.c4.lt).trans h.c4, (hb.block _ h.c8.lt).trans h.c8, h.rd.below hb, (hb.block _ (lt_of_block h.row)).trans h.row, below_then h.bel hb, h.low, h.big⟩
theorem Nx.calls {w n : World} {G gb ob cb p : Nat} {bs : List Int} (h : Nx w n G gb ob cb p bs) (k : Nat) (hl : bs.length = 84) (hb : Bytes bs) (h1 : 1 ≤ k) (h8 : k ≤ 8) (hp : p + k ≤ 84) (hcb : 84 ≤ cb) (hcm : cb ≤ 9223372036854775807) :
    Calls Tryd.prog 44 #[.int .i64 k, .pointer (some ⟨w.heap.size, 0, none⟩), .pointer (some ⟨G, 0, none⟩)] n fun e n' => e = .returned (.int .u64 (numAt bs p k)) ∧ Nx w n' G gb ob cb (p + k) bs ∧ ∀ b (_ : b ≠ G) {o : Obj}, n.heap[b]? = some o → n'.heap[b]? = some o := by
  refine Calls.mono (next_calls k p gb ob cb w.heap.size G bs hl h1 h8 hp hcb hcm _ n h.c4 h.c8 h.rd hb) ?_
  rintro e n' ⟨rfl, rfl⟩
  have hg := grown_set n G 0 (.int .i64 ((p : Int) + k))
  have hbig := h.big
  refine ⟨rfl, ⟨h.c4.kept hg (fun e => by injection e with e; omega), ?_, h.rd.kept hg (fun b o e h2 => by injection e with e; injection e with e1 e2; injection h2 with h2; have := h.low; omega), ?_, h.bel.setCell (by show _ ≤ G; omega) _, h.low, h.big⟩, fun b hb o ho => (Below.heap_setCell _ _ _ _ (by exact hb)).trans ho⟩
  · have := h.c8.set (.int .i64 ((p : Int) + k))
    rw [show ((p : Int) + (k : Int)) = (((p + k : Nat)) : Int) by omega] at this ⊢
    exact this
  · exact (Below.heap_setCell _ _ _ _ (by show w.heap.size + 1 ≠ G; omega)).trans h.row
theorem none_cells : Ck.none.cells = #[Value.int IntKind.i64 0, Value.int IntKind.i64 0, Value.int IntKind.u16 0, Value.int IntKind.u16 0, Value.int IntKind.u32 0, Value.int IntKind.u32 0, Value.int IntKind.u32 0, Value.int IntKind.u32 0, Value.int IntKind.u32 0, Value.int IntKind.u16 0, Value.int IntKind.u16 0, Value.int IntKind.u32 0, Value.int IntKind.u32 0] := rfl
theorem open_nil (A : Option Addr) (n c : Nat) (now : Int) (w : World) : Calls Tryd.prog 26 #[.pointer none, .slice A n c, .int .i64 now] w fun e w' => e = .returned (.tuple #[.agg Ck.none.cells, .int .i64 1]) ∧ Below w.heap.size w w' := by
  go_enter Tryd.func26, Tryd.ntmps26
  go_wp2_with (with_reducible refine hold_op (o := ⟨none, _, _, _, _, _⟩) ?_)
  have hB1 : Below w.heap.size w (w.alloc (.cells #[.slice A n c] 22)) := (Below.refl _ _).alloc (Nat.le_refl _) _
  have hS1 : (w.alloc (.cells #[.slice A n c] 22)).heap.size = w.heap.size + 1 := by simp
  have HB1 := hid hB1; have HS1 := hid hS1
  clear hB1 hS1
  generalize w.alloc (.cells #[.slice A n c] 22) = w1 at *
  have hR2 : (w1.alloc (.cells #[Value.int IntKind.i64 0, Value.int IntKind.i64 0, Value.int IntKind.u16 0, Value.int IntKind.u16 0, Value.int IntKind.u32 0, Value.int IntKind.u32 0, Value.int IntKind.u32 0, Value.int IntKind.u32 0, Value.int IntKind.u32 0, Value.int IntKind.u16 0, Value.int IntKind.u16 0, Value.int IntKind.u32 0, Value.int IntKind.u32 0] 40)).heap[w.heap.size + 1]? = some (.cells #[Value.int IntKind.i64 0, Value.int IntKind.i64 0, Value.int IntKind.u16 0, Value.int IntKind.u16 0, Value.int IntKind.u32 0, Value.int IntKind.u32 0, Value.int IntKind.u32 0, Value.int IntKind.u32 0, Value.int IntKind.u32 0, Value.int IntKind.u16 0, Value.int IntKind.u16 0, Value.int IntKind.u32 0, Value.int IntKind.u32 0] 40 (0, 0)) := by rw [← HS1.out]; exact heap_alloc_new _ _
  have hB2 : Below w1.heap.size w1 (w1.alloc (.cells #[Value.int IntKind.i64 0, Value.int IntKind.i64 0, Value.int IntKind.u16 0, Value.int IntKind.u16 0, Value.int IntKind.u32 0, Value.int IntKind.u32 0, Value.int IntKind.u32 0, Value.int IntKind.u32 0, Value.int IntKind.u32 0, Value.int IntKind.u16 0, Value.int IntKind.u16 0, Value.int IntKind.u32 0, Value.int IntKind.u32 0] 40)) := (Below.refl _ _).alloc (Nat.le_refl _) _
  have HR2 := hid hR2; have HB2 := hid (below_then HB1.out hB2)
  clear hR2 hB2 HB1
  generalize w1.alloc (.cells #[Value.int IntKind.i64 0, Value.int IntKind.i64 0, Value.int IntKind.u16 0, Value.int IntKind.u16 0, Value.int IntKind.u32 0, Value.int IntKind.u32 0, Value.int IntKind.u32 0, Value.int IntKind.u32 0, Value.int IntKind.u32 0, Value.int IntKind.u16 0, Value.int IntKind.u16 0, Value.int IntKind.u32 0, Value.int IntKind.u32 0] 40) = w2 at *
  refine hid ?_
  refine wpList_store_row rfl 40 (.tmp 6) (.tmp 16) rfl (w.heap.size + 1) #[Value.int IntKind.i64 0, Value.int IntKind.i64 0, Value.int IntKind.u16 0, Value.int IntKind.u16 0, Value.int IntKind.u32 0, Value.int IntKind.u32 0, Value.int IntKind.u32 0, Value.int IntKind.u32 0, Value.int IntKind.u32 0, Value.int IntKind.u16 0, Value.int IntKind.u16 0, Value.int IntKind.u32 0, Value.int IntKind.u32 0] rfl rfl 40 _ HR2.out (by kernel_rfl) rfl (by kernel_rfl) ?_
  rw [setRow_self w2 (w.heap.size + 1) #[Value.int IntKind.i64 0, Value.int IntKind.i64 0, Value.int IntKind.u16 0, Value.int IntKind.u16 0, Value.int IntKind.u32 0, Value.int IntKind.u32 0, Value.int IntKind.u32 0, Value.int IntKind.u32 0, Value.int IntKind.u32 0, Value.int IntKind.u16 0, Value.int IntKind.u16 0, Value.int IntKind.u32 0, Value.int IntKind.u32 0] 40 (0, 0) HR2.out]
  go_wp2
  refine bodyPost_ret (v := .tuple #[.agg #[Value.int IntKind.i64 0, Value.int IntKind.i64 0, Value.int IntKind.u16 0, Value.int IntKind.u16 0, Value.int IntKind.u32 0, Value.int IntKind.u32 0, Value.int IntKind.u32 0, Value.int IntKind.u32 0, Value.int IntKind.u32 0, Value.int IntKind.u16 0, Value.int IntKind.u16 0, Value.int IntKind.u32 0, Value.int IntKind.u32 0], .int .i64 1]) ?_ rfl ⟨rfl, HB2.out⟩
  exact results_cell_tmp (p := 6) (q := 7) rfl _ w2 (w.heap.size + 1) 40 #[Value.int IntKind.i64 0, Value.int IntKind.i64 0, Value.int IntKind.u16 0, Value.int IntKind.u16 0, Value.int IntKind.u32 0, Value.int IntKind.u32 0, Value.int IntKind.u32 0, Value.int IntKind.u32 0, Value.int IntKind.u32 0, Value.int IntKind.u16 0, Value.int IntKind.u16 0, Value.int IntKind.u32 0, Value.int IntKind.u32 0] (0, 0) _ rfl HR2.out _ rfl Tryd.underlying40 rfl (by kernel_rfl)
set_option maxHeartbeats 12800000 in
set_option maxRecDepth 100000 in
theorem open_calls (g nb cb : Nat) (A : Option Addr) (bs sec frm : List Int) (two : Bool) (now : Int) (w : World) (hT : Tab w) (hK : KSt w g sec frm two) (hnb : bs.length = nb) (hR : Rd w .u8 A bs) (hb : Bytes bs) (hcb : nb ≤ cb) (hcm : cb ≤ 9223372036854775807) :
    Calls Tryd.prog 26 #[.pointer (some ⟨g, 0, none⟩), .slice A nb cb, .int .i64 now] w fun e w' => e = .returned (.tuple #[.agg (ckOpen sec frm two bs now).1.cells, .int .i64 (ckOpen sec frm two bs now).2]) ∧ Below w.heap.size w w' := by
  have HT := hid hT; have HK := hid hK; have HNB := hid hnb; have HR := hid hR; have HBB := hid hb
  clear hT hK hnb hR hb
  have hnl := HR.out.len
  rw [HNB.out] at hnl
  have hB1 : Below w.heap.size w (w.alloc (.cells #[.slice A nb cb] 22)) := (Below.refl _ _).alloc (Nat.le_refl _) _
  have hS1 : (w.alloc (.cells #[.slice A nb cb] 22)).heap.size = w.heap.size + 1 := by simp
  have hC1 : Cell (w.alloc (.cells #[.slice A nb cb] 22)) w.heap.size 22 (.slice A nb cb) := Cell.new _ _ _
  have HB1 := hid hB1; have HS1 := hid hS1; have HC1 := hid hC1
  clear hB1 hS1 hC1
  go_enter Tryd.func26, Tryd.ntmps26
  by_cases ha : now < 0 ∨ 1099511627776 < now
  · have HCO : Box (ckOpen sec frm two bs now = (Ck.none, 2)) := ⟨by unfold ckOpen; rw [if_pos ha]⟩
    by_cases hz : now < 0
    · clear ha
      go_wp2_with (with_reducible refine hold_op (o := ⟨none, _, _, _, _, _⟩) ?_)
      generalize w.alloc (.cells #[.slice A nb cb] 22) = w1 at *
      have hR2 : (w1.alloc (.cells #[Value.int IntKind.i64 0, Value.int IntKind.i64 0, Value.int IntKind.u16 0, Value.int IntKind.u16 0, Value.int IntKind.u32 0, Value.int IntKind.u32 0, Value.int IntKind.u32 0, Value.int IntKind.u32 0, Value.int IntKind.u32 0, Value.int IntKind.u16 0, Value.int IntKind.u16 0, Value.int IntKind.u32 0, Value.int IntKind.u32 0] 40)).heap[w.heap.size + 1]? = some (.cells #[Value.int IntKind.i64 0, Value.int IntKind.i64 0, Value.int IntKind.u16 0, Value.int IntKind.u16 0, Value.int IntKind.u32 0, Value.int IntKind.u32 0, Value.int IntKind.u32 0, Value.int IntKind.u32 0, Value.int IntKind.u32 0, Value.int IntKind.u16 0, Value.int IntKind.u16 0, Value.int IntKind.u32 0, Value.int IntKind.u32 0] 40 (0, 0)) := by rw [← HS1.out]; exact heap_alloc_new _ _
      have hB2 : Below w1.heap.size w1 (w1.alloc (.cells #[Value.int IntKind.i64 0, Value.int IntKind.i64 0, Value.int IntKind.u16 0, Value.int IntKind.u16 0, Value.int IntKind.u32 0, Value.int IntKind.u32 0, Value.int IntKind.u32 0, Value.int IntKind.u32 0, Value.int IntKind.u32 0, Value.int IntKind.u16 0, Value.int IntKind.u16 0, Value.int IntKind.u32 0, Value.int IntKind.u32 0] 40)) := (Below.refl _ _).alloc (Nat.le_refl _) _
      have HR2 := hid hR2; have HB2 := hid (below_then HB1.out hB2)
      clear hR2 hB2
      generalize w1.alloc (.cells #[Value.int IntKind.i64 0, Value.int IntKind.i64 0, Value.int IntKind.u16 0, Value.int IntKind.u16 0, Value.int IntKind.u32 0, Value.int IntKind.u32 0, Value.int IntKind.u32 0, Value.int IntKind.u32 0, Value.int IntKind.u32 0, Value.int IntKind.u16 0, Value.int IntKind.u16 0, Value.int IntKind.u32 0, Value.int IntKind.u32 0] 40) = w2 at *
      refine hid ?_
      refine wpList_store_row rfl 40 (.tmp 6) (.tmp 24) rfl (w.heap.size + 1) #[Value.int IntKind.i64 0, Value.int IntKind.i64 0, Value.int IntKind.u16 0, Value.int IntKind.u16 0, Value.int IntKind.u32 0, Value.int IntKind.u32 0, Value.int IntKind.u32 0, Value.int IntKind.u32 0, Value.int IntKind.u32 0, Value.int IntKind.u16 0, Value.int IntKind.u16 0, Value.int IntKind.u32 0, Value.int IntKind.u32 0] rfl rfl 40 _ HR2.out (by kernel_rfl) rfl (by kernel_rfl) ?_
      rw [setRow_self w2 (w.heap.size + 1) #[Value.int IntKind.i64 0, Value.int IntKind.i64 0, Value.int IntKind.u16 0, Value.int IntKind.u16 0, Value.int IntKind.u32 0, Value.int IntKind.u32 0, Value.int IntKind.u32 0, Value.int IntKind.u32 0, Value.int IntKind.u32 0, Value.int IntKind.u16 0, Value.int IntKind.u16 0, Value.int IntKind.u32 0, Value.int IntKind.u32 0] 40 (0, 0) HR2.out]
      go_wp2
      refine bodyPost_ret (v := .tuple #[.agg #[Value.int IntKind.i64 0, Value.int IntKind.i64 0, Value.int IntKind.u16 0, Value.int IntKind.u16 0, Value.int IntKind.u32 0, Value.int IntKind.u32 0, Value.int IntKind.u32 0, Value.int IntKind.u32 0, Value.int IntKind.u32 0, Value.int IntKind.u16 0, Value.int IntKind.u16 0, Value.int IntKind.u32 0, Value.int IntKind.u32 0], .int .i64 2]) ?_ rfl ⟨by rw [HCO.out]; rfl, HB2.out⟩
      exact results_cell_tmp (p := 6) (q := 7) rfl _ w2 (w.heap.size + 1) 40 #[Value.int IntKind.i64 0, Value.int IntKind.i64 0, Value.int IntKind.u16 0, Value.int IntKind.u16 0, Value.int IntKind.u32 0, Value.int IntKind.u32 0, Value.int IntKind.u32 0, Value.int IntKind.u32 0, Value.int IntKind.u32 0, Value.int IntKind.u16 0, Value.int IntKind.u16 0, Value.int IntKind.u32 0, Value.int IntKind.u32 0] (0, 0) _ rfl HR2.out _ rfl Tryd.underlying40 rfl (by kernel_rfl)
    · have hz1 : 1099511627776 < now := by omega
      clear ha
      go_wp2_with (with_reducible refine hold_op (o := ⟨none, _, _, _, _, _⟩) ?_)
      generalize w.alloc (.cells #[.slice A nb cb] 22) = w1 at *
      have hR2 : (w1.alloc (.cells #[Value.int IntKind.i64 0, Value.int IntKind.i64 0, Value.int IntKind.u16 0, Value.int IntKind.u16 0, Value.int IntKind.u32 0, Value.int IntKind.u32 0, Value.int IntKind.u32 0, Value.int IntKind.u32 0, Value.int IntKind.u32 0, Value.int IntKind.u16 0, Value.int IntKind.u16 0, Value.int IntKind.u32 0, Value.int IntKind.u32 0] 40)).heap[w.heap.size + 1]? = some (.cells #[Value.int IntKind.i64 0, Value.int IntKind.i64 0, Value.int IntKind.u16 0, Value.int IntKind.u16 0, Value.int IntKind.u32 0, Value.int IntKind.u32 0, Value.int IntKind.u32 0, Value.int IntKind.u32 0, Value.int IntKind.u32 0, Value.int IntKind.u16 0, Value.int IntKind.u16 0, Value.int IntKind.u32 0, Value.int IntKind.u32 0] 40 (0, 0)) := by rw [← HS1.out]; exact heap_alloc_new _ _
      have hB2 : Below w1.heap.size w1 (w1.alloc (.cells #[Value.int IntKind.i64 0, Value.int IntKind.i64 0, Value.int IntKind.u16 0, Value.int IntKind.u16 0, Value.int IntKind.u32 0, Value.int IntKind.u32 0, Value.int IntKind.u32 0, Value.int IntKind.u32 0, Value.int IntKind.u32 0, Value.int IntKind.u16 0, Value.int IntKind.u16 0, Value.int IntKind.u32 0, Value.int IntKind.u32 0] 40)) := (Below.refl _ _).alloc (Nat.le_refl _) _
      have HR2 := hid hR2; have HB2 := hid (below_then HB1.out hB2)
      clear hR2 hB2
      generalize w1.alloc (.cells #[Value.int IntKind.i64 0, Value.int IntKind.i64 0, Value.int IntKind.u16 0, Value.int IntKind.u16 0, Value.int IntKind.u32 0, Value.int IntKind.u32 0, Value.int IntKind.u32 0, Value.int IntKind.u32 0, Value.int IntKind.u32 0, Value.int IntKind.u16 0, Value.int IntKind.u16 0, Value.int IntKind.u32 0, Value.int IntKind.u32 0] 40) = w2 at *
      refine hid ?_
      refine wpList_store_row rfl 40 (.tmp 6) (.tmp 24) rfl (w.heap.size + 1) #[Value.int IntKind.i64 0, Value.int IntKind.i64 0, Value.int IntKind.u16 0, Value.int IntKind.u16 0, Value.int IntKind.u32 0, Value.int IntKind.u32 0, Value.int IntKind.u32 0, Value.int IntKind.u32 0, Value.int IntKind.u32 0, Value.int IntKind.u16 0, Value.int IntKind.u16 0, Value.int IntKind.u32 0, Value.int IntKind.u32 0] rfl rfl 40 _ HR2.out (by kernel_rfl) rfl (by kernel_rfl) ?_
      rw [setRow_self w2 (w.heap.size + 1) #[Value.int IntKind.i64 0, Value.int IntKind.i64 0, Value.int IntKind.u16 0, Value.int IntKind.u16 0, Value.int IntKind.u32 0, Value.int IntKind.u32 0, Value.int IntKind.u32 0, Value.int IntKind.u32 0, Value.int IntKind.u32 0, Value.int IntKind.u16 0, Value.int IntKind.u16 0, Value.int IntKind.u32 0, Value.int IntKind.u32 0] 40 (0, 0) HR2.out]
      go_wp2
      refine bodyPost_ret (v := .tuple #[.agg #[Value.int IntKind.i64 0, Value.int IntKind.i64 0, Value.int IntKind.u16 0, Value.int IntKind.u16 0, Value.int IntKind.u32 0, Value.int IntKind.u32 0, Value.int IntKind.u32 0, Value.int IntKind.u32 0, Value.int IntKind.u32 0, Value.int IntKind.u16 0, Value.int IntKind.u16 0, Value.int IntKind.u32 0, Value.int IntKind.u32 0], .int .i64 2]) ?_ rfl ⟨by rw [HCO.out]; rfl, HB2.out⟩
      exact results_cell_tmp (p := 6) (q := 7) rfl _ w2 (w.heap.size + 1) 40 #[Value.int IntKind.i64 0, Value.int IntKind.i64 0, Value.int IntKind.u16 0, Value.int IntKind.u16 0, Value.int IntKind.u32 0, Value.int IntKind.u32 0, Value.int IntKind.u32 0, Value.int IntKind.u32 0, Value.int IntKind.u32 0, Value.int IntKind.u16 0, Value.int IntKind.u16 0, Value.int IntKind.u32 0, Value.int IntKind.u32 0] (0, 0) _ rfl HR2.out _ rfl Tryd.underlying40 rfl (by kernel_rfl)
  have ha0 : ¬ now < 0 := fun h => ha (.inl h)
  have ha1 : ¬ 1099511627776 < now := fun h => ha (.inr h)
  by_cases hl : nb ≠ 84
  · have HCO : Box (ckOpen sec frm two bs now = (Ck.none, 4)) := ⟨by unfold ckOpen; rw [if_neg ha, HNB.out, if_pos hl]⟩
    have hli : ((nb : Int) != 84) = true := by rw [bne_iff_ne]; omega
    clear hl ha
    go_wp2_with (with_reducible refine hold_op (o := ⟨none, _, _, _, _, _⟩) ?_)
    generalize w.alloc (.cells #[.slice A nb cb] 22) = w1 at *
    have hR2 : (w1.alloc (.cells #[Value.int IntKind.i64 0, Value.int IntKind.i64 0, Value.int IntKind.u16 0, Value.int IntKind.u16 0, Value.int IntKind.u32 0, Value.int IntKind.u32 0, Value.int IntKind.u32 0, Value.int IntKind.u32 0, Value.int IntKind.u32 0, Value.int IntKind.u16 0, Value.int IntKind.u16 0, Value.int IntKind.u32 0, Value.int IntKind.u32 0] 40)).heap[w.heap.size + 1]? = some (.cells #[Value.int IntKind.i64 0, Value.int IntKind.i64 0, Value.int IntKind.u16 0, Value.int IntKind.u16 0, Value.int IntKind.u32 0, Value.int IntKind.u32 0, Value.int IntKind.u32 0, Value.int IntKind.u32 0, Value.int IntKind.u32 0, Value.int IntKind.u16 0, Value.int IntKind.u16 0, Value.int IntKind.u32 0, Value.int IntKind.u32 0] 40 (0, 0)) := by rw [← HS1.out]; exact heap_alloc_new _ _
    have hB2 : Below w1.heap.size w1 (w1.alloc (.cells #[Value.int IntKind.i64 0, Value.int IntKind.i64 0, Value.int IntKind.u16 0, Value.int IntKind.u16 0, Value.int IntKind.u32 0, Value.int IntKind.u32 0, Value.int IntKind.u32 0, Value.int IntKind.u32 0, Value.int IntKind.u32 0, Value.int IntKind.u16 0, Value.int IntKind.u16 0, Value.int IntKind.u32 0, Value.int IntKind.u32 0] 40)) := (Below.refl _ _).alloc (Nat.le_refl _) _
    have HR2 := hid hR2; have HB2 := hid (below_then HB1.out hB2)
    clear hR2 hB2
    generalize w1.alloc (.cells #[Value.int IntKind.i64 0, Value.int IntKind.i64 0, Value.int IntKind.u16 0, Value.int IntKind.u16 0, Value.int IntKind.u32 0, Value.int IntKind.u32 0, Value.int IntKind.u32 0, Value.int IntKind.u32 0, Value.int IntKind.u32 0, Value.int IntKind.u16 0, Value.int IntKind.u16 0, Value.int IntKind.u32 0, Value.int IntKind.u32 0] 40) = w2 at *
    refine hid ?_
    refine wpList_store_row rfl 40 (.tmp 6) (.tmp 29) rfl (w.heap.size + 1) #[Value.int IntKind.i64 0, Value.int IntKind.i64 0, Value.int IntKind.u16 0, Value.int IntKind.u16 0, Value.int IntKind.u32 0, Value.int IntKind.u32 0, Value.int IntKind.u32 0, Value.int IntKind.u32 0, Value.int IntKind.u32 0, Value.int IntKind.u16 0, Value.int IntKind.u16 0, Value.int IntKind.u32 0, Value.int IntKind.u32 0] rfl rfl 40 _ HR2.out (by kernel_rfl) rfl (by kernel_rfl) ?_
    rw [setRow_self w2 (w.heap.size + 1) #[Value.int IntKind.i64 0, Value.int IntKind.i64 0, Value.int IntKind.u16 0, Value.int IntKind.u16 0, Value.int IntKind.u32 0, Value.int IntKind.u32 0, Value.int IntKind.u32 0, Value.int IntKind.u32 0, Value.int IntKind.u32 0, Value.int IntKind.u16 0, Value.int IntKind.u16 0, Value.int IntKind.u32 0, Value.int IntKind.u32 0] 40 (0, 0) HR2.out]
    go_wp2
    refine bodyPost_ret (v := .tuple #[.agg #[Value.int IntKind.i64 0, Value.int IntKind.i64 0, Value.int IntKind.u16 0, Value.int IntKind.u16 0, Value.int IntKind.u32 0, Value.int IntKind.u32 0, Value.int IntKind.u32 0, Value.int IntKind.u32 0, Value.int IntKind.u32 0, Value.int IntKind.u16 0, Value.int IntKind.u16 0, Value.int IntKind.u32 0, Value.int IntKind.u32 0], .int .i64 4]) ?_ rfl ⟨by rw [HCO.out]; rfl, HB2.out⟩
    exact results_cell_tmp (p := 6) (q := 7) rfl _ w2 (w.heap.size + 1) 40 #[Value.int IntKind.i64 0, Value.int IntKind.i64 0, Value.int IntKind.u16 0, Value.int IntKind.u16 0, Value.int IntKind.u32 0, Value.int IntKind.u32 0, Value.int IntKind.u32 0, Value.int IntKind.u32 0, Value.int IntKind.u32 0, Value.int IntKind.u16 0, Value.int IntKind.u16 0, Value.int IntKind.u32 0, Value.int IntKind.u32 0] (0, 0) _ rfl HR2.out _ rfl Tryd.underlying40 rfl (by kernel_rfl)
  obtain rfl : nb = 84 := by omega
  have HA : Box (¬ (now < 0 ∨ 1099511627776 < now)) := ⟨ha⟩
  clear ha hl
  obtain ⟨gb, ob, rfl, hgb⟩ := HR.out.form 0 (by rw [HNB.out]; omega)
  go_wp2_with fail
  generalize w.alloc (.cells #[.slice (some ⟨gb, ob, none⟩) 84 cb] 22) = w1 at *
  have hR2 : (w1.alloc (.cells #[Value.int IntKind.i64 0, Value.int IntKind.i64 0, Value.int IntKind.u16 0, Value.int IntKind.u16 0, Value.int IntKind.u32 0, Value.int IntKind.u32 0, Value.int IntKind.u32 0, Value.int IntKind.u32 0, Value.int IntKind.u32 0, Value.int IntKind.u16 0, Value.int IntKind.u16 0, Value.int IntKind.u32 0, Value.int IntKind.u32 0] 40)).heap[w.heap.size + 1]? = some (.cells #[Value.int IntKind.i64 0, Value.int IntKind.i64 0, Value.int IntKind.u16 0, Value.int IntKind.u16 0, Value.int IntKind.u32 0, Value.int IntKind.u32 0, Value.int IntKind.u32 0, Value.int IntKind.u32 0, Value.int IntKind.u32 0, Value.int IntKind.u16 0, Value.int IntKind.u16 0, Value.int IntKind.u32 0, Value.int IntKind.u32 0] 40 (0, 0)) := by rw [← HS1.out]; exact heap_alloc_new _ _
  have hB2 : Below w1.heap.size w1 (w1.alloc (.cells #[Value.int IntKind.i64 0, Value.int IntKind.i64 0, Value.int IntKind.u16 0, Value.int IntKind.u16 0, Value.int IntKind.u32 0, Value.int IntKind.u32 0, Value.int IntKind.u32 0, Value.int IntKind.u32 0, Value.int IntKind.u32 0, Value.int IntKind.u16 0, Value.int IntKind.u16 0, Value.int IntKind.u32 0, Value.int IntKind.u32 0] 40)) := (Below.refl _ _).alloc (Nat.le_refl _) _
  have hC2 : Cell (w1.alloc (.cells #[Value.int IntKind.i64 0, Value.int IntKind.i64 0, Value.int IntKind.u16 0, Value.int IntKind.u16 0, Value.int IntKind.u32 0, Value.int IntKind.u32 0, Value.int IntKind.u32 0, Value.int IntKind.u32 0, Value.int IntKind.u32 0, Value.int IntKind.u16 0, Value.int IntKind.u16 0, Value.int IntKind.u32 0, Value.int IntKind.u32 0] 40)) w.heap.size 22 (.slice (some ⟨gb, ob, none⟩) 84 cb) := (hB2.block _ HC1.out.lt).trans HC1.out
  have HR2 := hid hR2; have HB2 := hid (below_then HB1.out hB2); have HC2 := hid hC2
  clear hR2 hB2 HB1 hC2 HC1 HS1
  generalize w1.alloc (.cells #[Value.int IntKind.i64 0, Value.int IntKind.i64 0, Value.int IntKind.u16 0, Value.int IntKind.u16 0, Value.int IntKind.u32 0, Value.int IntKind.u32 0, Value.int IntKind.u32 0, Value.int IntKind.u32 0, Value.int IntKind.u32 0, Value.int IntKind.u16 0, Value.int IntKind.u16 0, Value.int IntKind.u32 0, Value.int IntKind.u32 0] 40) = w2 at *
  have c4 := HC2.out.cell
  have i0 : (52 : Int) ≤ (cb : Int) := by omega
  have i1 : ¬ cb = 52 := by omega
  refine wp_region_still_tail 5 (by kernel_rfl) (by kernel_rfl) ?_
  simp only [List.take_succ_cons, List.take_zero, List.drop_succ_cons, List.drop_zero]
  change wpStill _ _ w2.drew _ _ _
  repeat still_step
  refine wpStill_nil ?_
  clear i0 i1 c4
  have HB3 : Hid (Below w.heap.size w w2.drew) := hid (below_drewN HB2.out 1)
  have HR3 : Hid (w2.drew.heap[w.heap.size + 1]? = some (.cells #[Value.int IntKind.i64 0, Value.int IntKind.i64 0, Value.int IntKind.u16 0, Value.int IntKind.u16 0, Value.int IntKind.u32 0, Value.int IntKind.u32 0, Value.int IntKind.u32 0, Value.int IntKind.u32 0, Value.int IntKind.u32 0, Value.int IntKind.u16 0, Value.int IntKind.u16 0, Value.int IntKind.u32 0, Value.int IntKind.u32 0] 40 (0, 0))) := HR2
  have HC3 : Hid (Cell w2.drew w.heap.size 22 (.slice (some ⟨gb, ob, none⟩) 84 cb)) := HC2
  clear HB2 HR2 HC2
  try rw [show ({ heap := w2.heap, tape := w2.tape, drawn := w2.drawn + 1, os := w2.os, output := w2.output } : World) = w2.drew from rfl]
  generalize w2.drew = w3 at *
  have hl52 : (bs.take 52).length = 52 := by rw [List.length_take, HNB.out]; omega
  have hl32 : (bs.drop 52).length = 32 := by rw [List.length_drop, HNB.out]
  go_wp2_with (go_at_call 43; refine hold ?_)
  refine hid ?_
  refine Calls.mono (mine_calls g cb 52 (cb - 52) 32 (some ⟨gb, ob, none⟩) (some ⟨gb, ob + 52, none⟩) (bs.take 52) (bs.drop 52) sec frm two w3 (HT.out.below HB3.out) (HK.out.below HB3.out) hl52 hl32 ((HR.out.below HB3.out).take 52) ((HR.out.below HB3.out).drop 52) (fun h => by simp at h) (bytes_take HBB.out 52) (bytes_drop HBB.out 52) (by omega)) ?_
  rintro e w4 ⟨rfl, hB4⟩
  have HB4 := hid (below_then HB3.out hB4)
  have HR4 := hid ((hB4.block _ (lt_of_block HR3.out)).trans HR3.out)
  have HC4 : Hid (Cell w4 w.heap.size 22 (.slice (some ⟨gb, ob, none⟩) 84 cb)) := hid ((hB4.block _ HC3.out.lt).trans HC3.out)
  have HL4 := hid (lt_of_block HR4.out)
  clear hB4 HB3 HR3 HC3 hl52 hl32
  obtain ⟨mm, hmm⟩ : ∃ mm, mm = (decide (mac sec (bs.take 52) = bs.drop 52) || (decide (mac frm (bs.take 52) = bs.drop 52) && two)) := ⟨_, rfl⟩
  rw [← hmm]
  have HMM : Box (mm = true ↔ (mac sec (bs.take 52) = bs.drop 52 ∨ (mac frm (bs.take 52) = bs.drop 52 ∧ two = true))) := ⟨by rw [hmm]; simp⟩
  clear hmm
  cases mm
  · have HCO : Box (ckOpen sec frm two bs now = (Ck.none, 5)) := ⟨by
      unfold ckOpen
      rw [if_neg HA.out, if_neg (by rw [HNB.out]; simp), if_pos (fun h => by have := HMM.out.2 h; cases this)]⟩
    go_wp2_with (with_reducible refine hold_op (o := ⟨none, _, _, _, _, _⟩) ?_)
    refine hid ?_
    refine wpList_store_row rfl 40 (.tmp 6) (.tmp 38) rfl (w.heap.size + 1) #[Value.int IntKind.i64 0, Value.int IntKind.i64 0, Value.int IntKind.u16 0, Value.int IntKind.u16 0, Value.int IntKind.u32 0, Value.int IntKind.u32 0, Value.int IntKind.u32 0, Value.int IntKind.u32 0, Value.int IntKind.u32 0, Value.int IntKind.u16 0, Value.int IntKind.u16 0, Value.int IntKind.u32 0, Value.int IntKind.u32 0] rfl rfl 40 _ HR4.out (by kernel_rfl) rfl (by kernel_rfl) ?_
    rw [setRow_self w4 (w.heap.size + 1) #[Value.int IntKind.i64 0, Value.int IntKind.i64 0, Value.int IntKind.u16 0, Value.int IntKind.u16 0, Value.int IntKind.u32 0, Value.int IntKind.u32 0, Value.int IntKind.u32 0, Value.int IntKind.u32 0, Value.int IntKind.u32 0, Value.int IntKind.u16 0, Value.int IntKind.u16 0, Value.int IntKind.u32 0, Value.int IntKind.u32 0] 40 (0, 0) HR4.out]
    go_wp2
    refine bodyPost_ret (v := .tuple #[.agg #[Value.int IntKind.i64 0, Value.int IntKind.i64 0, Value.int IntKind.u16 0, Value.int IntKind.u16 0, Value.int IntKind.u32 0, Value.int IntKind.u32 0, Value.int IntKind.u32 0, Value.int IntKind.u32 0, Value.int IntKind.u32 0, Value.int IntKind.u16 0, Value.int IntKind.u16 0, Value.int IntKind.u32 0, Value.int IntKind.u32 0], .int .i64 5]) ?_ rfl ⟨by rw [HCO.out]; rfl, HB4.out⟩
    exact results_cell_tmp (p := 6) (q := 7) rfl _ w4 (w.heap.size + 1) 40 #[Value.int IntKind.i64 0, Value.int IntKind.i64 0, Value.int IntKind.u16 0, Value.int IntKind.u16 0, Value.int IntKind.u32 0, Value.int IntKind.u32 0, Value.int IntKind.u32 0, Value.int IntKind.u32 0, Value.int IntKind.u32 0, Value.int IntKind.u16 0, Value.int IntKind.u16 0, Value.int IntKind.u32 0, Value.int IntKind.u32 0] (0, 0) _ rfl HR4.out _ rfl Tryd.underlying40 rfl (by kernel_rfl)
  have HM1 : Box (¬ ¬ (mac sec (bs.take 52) = bs.drop 52 ∨ (mac frm (bs.take 52) = bs.drop 52 ∧ two = true))) := ⟨fun h => h (HMM.out.1 rfl)⟩
  clear HMM
  go_wp2_with (go_at_call 44; refine hold ?_)
  have hN0 : Nx w (w4.alloc (.cells #[.int .i64 0] 3)) w4.heap.size gb ob cb 0 bs := by
    have hb : Below w4.heap.size w4 (w4.alloc (.cells #[.int .i64 0] 3)) := (Below.refl _ _).alloc (Nat.le_refl _) _
    exact ⟨(hb.block _ HC4.out.lt).trans HC4.out, Cell.new _ _ _, (HR.out.below HB4.out).below hb, (hb.block _ HL4.out).trans HR4.out, below_then HB4.out hb, hgb, HL4.out⟩
  have HN0 := hid hN0
  clear hN0 HC4 HR4 HB4 HL4
  generalize w4.alloc (.cells #[.int .i64 0] 3) = n0 at *
  refine hid ?_
  refine Calls.mono (HN0.out.calls 8 HNB.out HBB.out (by omega) (by omega) (by omega) hcb hcm) ?_
  rintro e n1 ⟨rfl, hn1, hr1⟩
  have HN1 : Hid (Nx w n1 w4.heap.size gb ob cb 8 bs) := hid hn1
  obtain ⟨V0, hV0⟩ : ∃ V0, V0 = numAt bs 0 8 := ⟨_, rfl⟩
  have hv0 := numAt_range bs 0 8 HBB.out
  rw [← hV0] at hv0 ⊢
  have HV0 : Box (numAt bs 0 8 = V0) := ⟨hV0.symm⟩
  have hy00 := hv0.1
  have hy01 : V0 < 18446744073709551616 := hv0.2
  clear hn1 hV0 hv0 HN0
  clear hr1
  go_wp2_with (go_at_call 44; refine hold ?_)
  refine hid ?_
  refine Calls.mono (HN1.out.calls 4 HNB.out HBB.out (by omega) (by omega) (by omega) hcb hcm) ?_
  rintro e n2 ⟨rfl, hn2, hr2⟩
  have HN2 : Hid (Nx w n2 w4.heap.size gb ob cb 12 bs) := hid hn2
  obtain ⟨V1, hV1⟩ : ∃ V1, V1 = numAt bs 8 4 := ⟨_, rfl⟩
  have hv1 := numAt_range bs 8 4 HBB.out
  rw [← hV1] at hv1 ⊢
  have HV1 : Box (numAt bs 8 4 = V1) := ⟨hV1.symm⟩
  have hy10 := hv1.1
  have hy11 : V1 < 4294967296 := hv1.2
  clear hn2 hV1 hv1 HN1
  clear hr2
  go_wp2_with (go_at_call 44; refine hold ?_)
  refine hid ?_
  refine Calls.mono (HN2.out.calls 2 HNB.out HBB.out (by omega) (by omega) (by omega) hcb hcm) ?_
  rintro e n3 ⟨rfl, hn3, hr3⟩
  have HN3 : Hid (Nx w n3 w4.heap.size gb ob cb 14 bs) := hid hn3
  obtain ⟨V2, hV2⟩ : ∃ V2, V2 = numAt bs 12 2 := ⟨_, rfl⟩
  have hv2 := numAt_range bs 12 2 HBB.out
  rw [← hV2] at hv2 ⊢
  have HV2 : Box (numAt bs 12 2 = V2) := ⟨hV2.symm⟩
  have hy20 := hv2.1
  have hy21 : V2 < 65536 := hv2.2
  clear hn3 hV2 hv2 HN2
  clear hr3
  have yw2 : IntKind.u16.wrap V2 = V2 := by rw [IntKind.wrap_u16]; omega
  go_wp2_with (go_at_call 44; refine hold ?_)
  refine hid ?_
  refine Calls.mono (HN3.out.calls 2 HNB.out HBB.out (by omega) (by omega) (by omega) hcb hcm) ?_
  rintro e n4 ⟨rfl, hn4, hr4⟩
  have HN4 : Hid (Nx w n4 w4.heap.size gb ob cb 16 bs) := hid hn4
  obtain ⟨V3, hV3⟩ : ∃ V3, V3 = numAt bs 14 2 := ⟨_, rfl⟩
  have hv3 := numAt_range bs 14 2 HBB.out
  rw [← hV3] at hv3 ⊢
  have HV3 : Box (numAt bs 14 2 = V3) := ⟨hV3.symm⟩
  have hy30 := hv3.1
  have hy31 : V3 < 65536 := hv3.2
  clear hn4 hV3 hv3 HN3
  clear hr4
  have yw3 : IntKind.u16.wrap V3 = V3 := by rw [IntKind.wrap_u16]; omega
  go_wp2_with (go_at_call 44; refine hold ?_)
  refine hid ?_
  refine Calls.mono (HN4.out.calls 4 HNB.out HBB.out (by omega) (by omega) (by omega) hcb hcm) ?_
  rintro e n5 ⟨rfl, hn5, hr5⟩
  have HN5 : Hid (Nx w n5 w4.heap.size gb ob cb 20 bs) := hid hn5
  obtain ⟨V4, hV4⟩ : ∃ V4, V4 = numAt bs 16 4 := ⟨_, rfl⟩
  have hv4 := numAt_range bs 16 4 HBB.out
  rw [← hV4] at hv4 ⊢
  have HV4 : Box (numAt bs 16 4 = V4) := ⟨hV4.symm⟩
  have hy40 := hv4.1
  have hy41 : V4 < 4294967296 := hv4.2
  clear hn5 hV4 hv4 HN4
  clear hr5
  have yw4 : IntKind.u32.wrap V4 = V4 := by rw [IntKind.wrap_u32]; omega
  go_wp2_with (go_at_call 44; refine hold ?_)
  refine hid ?_
  refine Calls.mono (HN5.out.calls 4 HNB.out HBB.out (by omega) (by omega) (by omega) hcb hcm) ?_
  rintro e n6 ⟨rfl, hn6, hr6⟩
  have HN6 : Hid (Nx w n6 w4.heap.size gb ob cb 24 bs) := hid hn6
  obtain ⟨V5, hV5⟩ : ∃ V5, V5 = numAt bs 20 4 := ⟨_, rfl⟩
  have hv5 := numAt_range bs 20 4 HBB.out
  rw [← hV5] at hv5 ⊢
  have HV5 : Box (numAt bs 20 4 = V5) := ⟨hV5.symm⟩
  have hy50 := hv5.1
  have hy51 : V5 < 4294967296 := hv5.2
  clear hn6 hV5 hv5 HN5
  clear hr6
  have yw5 : IntKind.u32.wrap V5 = V5 := by rw [IntKind.wrap_u32]; omega
  go_wp2_with (go_at_call 44; refine hold ?_)
  refine hid ?_
  refine Calls.mono (HN6.out.calls 4 HNB.out HBB.out (by omega) (by omega) (by omega) hcb hcm) ?_
  rintro e n7 ⟨rfl, hn7, hr7⟩
  have HN7 : Hid (Nx w n7 w4.heap.size gb ob cb 28 bs) := hid hn7
  obtain ⟨V6, hV6⟩ : ∃ V6, V6 = numAt bs 24 4 := ⟨_, rfl⟩
  have hv6 := numAt_range bs 24 4 HBB.out
  rw [← hV6] at hv6 ⊢
  have HV6 : Box (numAt bs 24 4 = V6) := ⟨hV6.symm⟩
  have hy60 := hv6.1
  have hy61 : V6 < 4294967296 := hv6.2
  clear hn7 hV6 hv6 HN6
  clear hr7
  have yw6 : IntKind.u32.wrap V6 = V6 := by rw [IntKind.wrap_u32]; omega
  go_wp2_with (go_at_call 44; refine hold ?_)
  refine hid ?_
  refine Calls.mono (HN7.out.calls 4 HNB.out HBB.out (by omega) (by omega) (by omega) hcb hcm) ?_
  rintro e n8 ⟨rfl, hn8, hr8⟩
  have HN8 : Hid (Nx w n8 w4.heap.size gb ob cb 32 bs) := hid hn8
  obtain ⟨V7, hV7⟩ : ∃ V7, V7 = numAt bs 28 4 := ⟨_, rfl⟩
  have hv7 := numAt_range bs 28 4 HBB.out
  rw [← hV7] at hv7 ⊢
  have HV7 : Box (numAt bs 28 4 = V7) := ⟨hV7.symm⟩
  have hy70 := hv7.1
  have hy71 : V7 < 4294967296 := hv7.2
  clear hn8 hV7 hv7 HN7
  clear hr8
  have yw7 : IntKind.u32.wrap V7 = V7 := by rw [IntKind.wrap_u32]; omega
  go_wp2_with (go_at_call 44; refine hold ?_)
  refine hid ?_
  refine Calls.mono (HN8.out.calls 4 HNB.out HBB.out (by omega) (by omega) (by omega) hcb hcm) ?_
  rintro e n9 ⟨rfl, hn9, hr9⟩
  have HN9 : Hid (Nx w n9 w4.heap.size gb ob cb 36 bs) := hid hn9
  obtain ⟨V8, hV8⟩ : ∃ V8, V8 = numAt bs 32 4 := ⟨_, rfl⟩
  have hv8 := numAt_range bs 32 4 HBB.out
  rw [← hV8] at hv8 ⊢
  have HV8 : Box (numAt bs 32 4 = V8) := ⟨hV8.symm⟩
  have hy80 := hv8.1
  have hy81 : V8 < 4294967296 := hv8.2
  clear hn9 hV8 hv8 HN8
  clear hr9
  have yw8 : IntKind.u32.wrap V8 = V8 := by rw [IntKind.wrap_u32]; omega
  go_wp2_with (go_at_call 44; refine hold ?_)
  refine hid ?_
  refine Calls.mono (HN9.out.calls 2 HNB.out HBB.out (by omega) (by omega) (by omega) hcb hcm) ?_
  rintro e n10 ⟨rfl, hn10, hr10⟩
  have HN10 : Hid (Nx w n10 w4.heap.size gb ob cb 38 bs) := hid hn10
  obtain ⟨V9, hV9⟩ : ∃ V9, V9 = numAt bs 36 2 := ⟨_, rfl⟩
  have hv9 := numAt_range bs 36 2 HBB.out
  rw [← hV9] at hv9 ⊢
  have HV9 : Box (numAt bs 36 2 = V9) := ⟨hV9.symm⟩
  have hy90 := hv9.1
  have hy91 : V9 < 65536 := hv9.2
  clear hn10 hV9 hv9 HN9
  clear hr10
  have yw9 : IntKind.u16.wrap V9 = V9 := by rw [IntKind.wrap_u16]; omega
  go_wp2_with (go_at_call 44; refine hold ?_)
  refine hid ?_
  refine Calls.mono (HN10.out.calls 2 HNB.out HBB.out (by omega) (by omega) (by omega) hcb hcm) ?_
  rintro e n11 ⟨rfl, hn11, hr11⟩
  have HN11 : Hid (Nx w n11 w4.heap.size gb ob cb 40 bs) := hid hn11
  obtain ⟨V10, hV10⟩ : ∃ V10, V10 = numAt bs 38 2 := ⟨_, rfl⟩
  have hv10 := numAt_range bs 38 2 HBB.out
  rw [← hV10] at hv10 ⊢
  have HV10 : Box (numAt bs 38 2 = V10) := ⟨hV10.symm⟩
  have hy100 := hv10.1
  have hy101 : V10 < 65536 := hv10.2
  clear hn11 hV10 hv10 HN10
  clear hr11
  have yw10 : IntKind.u16.wrap V10 = V10 := by rw [IntKind.wrap_u16]; omega
  go_wp2_with (go_at_call 44; refine hold ?_)
  refine hid ?_
  refine Calls.mono (HN11.out.calls 4 HNB.out HBB.out (by omega) (by omega) (by omega) hcb hcm) ?_
  rintro e n12 ⟨rfl, hn12, hr12⟩
  have HN12 : Hid (Nx w n12 w4.heap.size gb ob cb 44 bs) := hid hn12
  obtain ⟨V11, hV11⟩ : ∃ V11, V11 = numAt bs 40 4 := ⟨_, rfl⟩
  have hv11 := numAt_range bs 40 4 HBB.out
  rw [← hV11] at hv11 ⊢
  have HV11 : Box (numAt bs 40 4 = V11) := ⟨hV11.symm⟩
  have hy110 := hv11.1
  have hy111 : V11 < 4294967296 := hv11.2
  clear hn12 hV11 hv11 HN11
  clear hr12
  have yw11 : IntKind.u32.wrap V11 = V11 := by rw [IntKind.wrap_u32]; omega
  go_wp2_with (go_at_call 44; refine hold ?_)
  refine hid ?_
  refine Calls.mono (HN12.out.calls 4 HNB.out HBB.out (by omega) (by omega) (by omega) hcb hcm) ?_
  rintro e n13 ⟨rfl, hn13, hr13⟩
  have HN13 : Hid (Nx w n13 w4.heap.size gb ob cb 48 bs) := hid hn13
  obtain ⟨V12, hV12⟩ : ∃ V12, V12 = numAt bs 44 4 := ⟨_, rfl⟩
  have hv12 := numAt_range bs 44 4 HBB.out
  rw [← hV12] at hv12 ⊢
  have HV12 : Box (numAt bs 44 4 = V12) := ⟨hV12.symm⟩
  have hy120 := hv12.1
  have hy121 : V12 < 4294967296 := hv12.2
  clear hn13 hV12 hv12 HN12
  clear hr13
  have yw12 : IntKind.u32.wrap V12 = V12 := by rw [IntKind.wrap_u32]; omega
  go_wp2_with (with_reducible refine hold_op (o := ⟨none, _, _, _, _, _⟩) ?_)
  have hA0 : (n13.alloc (.cells #[Value.int IntKind.i64 0, Value.int IntKind.i64 0, Value.int IntKind.u16 0, Value.int IntKind.u16 0, Value.int IntKind.u32 0, Value.int IntKind.u32 0, Value.int IntKind.u32 0, Value.int IntKind.u32 0, Value.int IntKind.u32 0, Value.int IntKind.u16 0, Value.int IntKind.u16 0, Value.int IntKind.u32 0, Value.int IntKind.u32 0] 40)).heap[n13.heap.size]? = some (.cells #[Value.int IntKind.i64 0, Value.int IntKind.i64 0, Value.int IntKind.u16 0, Value.int IntKind.u16 0, Value.int IntKind.u32 0, Value.int IntKind.u32 0, Value.int IntKind.u32 0, Value.int IntKind.u32 0, Value.int IntKind.u32 0, Value.int IntKind.u16 0, Value.int IntKind.u16 0, Value.int IntKind.u32 0, Value.int IntKind.u32 0] 40 (0, 0)) := heap_alloc_new _ _
  have hAB : Below n13.heap.size n13 (n13.alloc (.cells #[Value.int IntKind.i64 0, Value.int IntKind.i64 0, Value.int IntKind.u16 0, Value.int IntKind.u16 0, Value.int IntKind.u32 0, Value.int IntKind.u32 0, Value.int IntKind.u32 0, Value.int IntKind.u32 0, Value.int IntKind.u32 0, Value.int IntKind.u16 0, Value.int IntKind.u16 0, Value.int IntKind.u32 0, Value.int IntKind.u32 0] 40)) := (Below.refl _ _).alloc (Nat.le_refl _) _
  have HA0 := hid hA0; have HAB := hid hAB
  clear hA0 hAB
  generalize n13.alloc (.cells #[Value.int IntKind.i64 0, Value.int IntKind.i64 0, Value.int IntKind.u16 0, Value.int IntKind.u16 0, Value.int IntKind.u32 0, Value.int IntKind.u32 0, Value.int IntKind.u32 0, Value.int IntKind.u32 0, Value.int IntKind.u32 0, Value.int IntKind.u16 0, Value.int IntKind.u16 0, Value.int IntKind.u32 0, Value.int IntKind.u32 0] 40) = m1 at *
  refine hid ?_
  refine wpList_store_row rfl 40 (.tmp 12) (.tmp 77) rfl n13.heap.size (Ck.mk 0 0 V2 V3 V4 V5 V6 V7 V8 V9 V10 V11 V12).cells rfl rfl 40 _ HA0.out (by kernel_rfl) rfl (by simp [Ck.cells, Value.oneCell']) ?_
  have HA1 := hid (setRow_heap m1 n13.heap.size _ (Ck.mk 0 0 V2 V3 V4 V5 V6 V7 V8 V9 V10 V11 V12).cells 40 _ HA0.out)
  have HAB1 := hid (below_setRow HAB.out (Nat.le_refl _) (Ck.mk 0 0 V2 V3 V4 V5 V6 V7 V8 V9 V10 V11 V12).cells)
  have HNm := hid (HN13.out.below HAB1.out)
  have hlt13 : w4.heap.size < n13.heap.size := HN13.out.c8.lt
  clear HA0 HAB HN13 HAB1
  generalize m1.setRow n13.heap.size (Ck.mk 0 0 V2 V3 V4 V5 V6 V7 V8 V9 V10 V11 V12).cells = m2 at *
  go_wp2_with (go_at_call 44; refine hold ?_)
  refine hid ?_
  refine Calls.mono (HNm.out.calls 4 HNB.out HBB.out (by omega) (by omega) (by omega) hcb hcm) ?_
  rintro e n14 ⟨rfl, hn14, hr14⟩
  have HN14 : Hid (Nx w n14 w4.heap.size gb ob cb 52 bs) := hid hn14
  obtain ⟨V13, hV13⟩ : ∃ V13, V13 = numAt bs 48 4 := ⟨_, rfl⟩
  have hv13 := numAt_range bs 48 4 HBB.out
  rw [← hV13] at hv13 ⊢
  have HV13 : Box (numAt bs 48 4 = V13) := ⟨hV13.symm⟩
  have hy130 := hv13.1
  have hy131 : V13 < 4294967296 := hv13.2
  clear hn14 hV13 hv13 
  have HA2 := hid (hr14 _ (by omega) HA1.out)
  clear hr14 HNm HA1
  clear yw2 yw3 yw4 yw5 yw6 yw7 yw8 yw9 yw10 yw11 yw12
  have HBn := hid HN14.out.bel
  have HRn := hid HN14.out.row
  have HCK : Box (ckOf bs = Ck.mk V0 V1 V2 V3 V4 V5 V6 V7 V8 V9 V10 V11 V12) := ⟨by unfold ckOf; rw [HV0.out, HV1.out, HV2.out, HV3.out, HV4.out, HV5.out, HV6.out, HV7.out, HV8.out, HV9.out, HV10.out, HV11.out, HV12.out]⟩
  by_cases h13 : V13 ≠ 0
  · have HCO : Box (ckOpen sec frm two bs now = (Ck.none, 4)) := ⟨by
      unfold ckOpen
      rw [if_neg HA.out, if_neg (by rw [HNB.out]; simp), if_neg HM1.out, if_pos (by rw [HV13.out]; exact h13)]⟩
    go_wp2_with (with_reducible refine hold_op (o := ⟨none, _, _, _, _, _⟩) ?_)
    refine hid ?_
    refine wpList_store_row rfl 40 (.tmp 6) (.tmp 81) rfl (w.heap.size + 1) #[Value.int IntKind.i64 0, Value.int IntKind.i64 0, Value.int IntKind.u16 0, Value.int IntKind.u16 0, Value.int IntKind.u32 0, Value.int IntKind.u32 0, Value.int IntKind.u32 0, Value.int IntKind.u32 0, Value.int IntKind.u32 0, Value.int IntKind.u16 0, Value.int IntKind.u16 0, Value.int IntKind.u32 0, Value.int IntKind.u32 0] rfl rfl 40 _ HRn.out (by kernel_rfl) rfl (by kernel_rfl) ?_
    rw [setRow_self n14 (w.heap.size + 1) #[Value.int IntKind.i64 0, Value.int IntKind.i64 0, Value.int IntKind.u16 0, Value.int IntKind.u16 0, Value.int IntKind.u32 0, Value.int IntKind.u32 0, Value.int IntKind.u32 0, Value.int IntKind.u32 0, Value.int IntKind.u32 0, Value.int IntKind.u16 0, Value.int IntKind.u16 0, Value.int IntKind.u32 0, Value.int IntKind.u32 0] 40 (0, 0) HRn.out]
    go_wp2
    refine bodyPost_ret (v := .tuple #[.agg #[Value.int IntKind.i64 0, Value.int IntKind.i64 0, Value.int IntKind.u16 0, Value.int IntKind.u16 0, Value.int IntKind.u32 0, Value.int IntKind.u32 0, Value.int IntKind.u32 0, Value.int IntKind.u32 0, Value.int IntKind.u32 0, Value.int IntKind.u16 0, Value.int IntKind.u16 0, Value.int IntKind.u32 0, Value.int IntKind.u32 0], .int .i64 4]) ?_ rfl ⟨by rw [HCO.out]; rfl, HBn.out⟩
    exact results_cell_tmp (p := 6) (q := 7) rfl _ n14 (w.heap.size + 1) 40 #[Value.int IntKind.i64 0, Value.int IntKind.i64 0, Value.int IntKind.u16 0, Value.int IntKind.u16 0, Value.int IntKind.u32 0, Value.int IntKind.u32 0, Value.int IntKind.u32 0, Value.int IntKind.u32 0, Value.int IntKind.u32 0, Value.int IntKind.u16 0, Value.int IntKind.u16 0, Value.int IntKind.u32 0, Value.int IntKind.u32 0] (0, 0) _ rfl HRn.out _ rfl Tryd.underlying40 rfl (by kernel_rfl)

  obtain rfl : V13 = 0 := by omega
  by_cases hlim : 1099511627776 < V0 ∨ 600 < V1
  · have HCO : Box (ckOpen sec frm two bs now = (Ck.none, 6)) := ⟨by
      unfold ckOpen
      rw [if_neg HA.out, if_neg (by rw [HNB.out]; simp), if_neg HM1.out, if_neg (by rw [HV13.out]; simp), if_pos (by rw [HV0.out, HV1.out]; exact hlim)]⟩
    by_cases hl0 : 1099511627776 < V0
    · clear hlim h13
      go_wp2_with (with_reducible refine hold_op (o := ⟨none, _, _, _, _, _⟩) ?_)
      refine hid ?_
      refine wpList_store_row rfl 40 (.tmp 6) (.tmp 88) rfl (w.heap.size + 1) #[Value.int IntKind.i64 0, Value.int IntKind.i64 0, Value.int IntKind.u16 0, Value.int IntKind.u16 0, Value.int IntKind.u32 0, Value.int IntKind.u32 0, Value.int IntKind.u32 0, Value.int IntKind.u32 0, Value.int IntKind.u32 0, Value.int IntKind.u16 0, Value.int IntKind.u16 0, Value.int IntKind.u32 0, Value.int IntKind.u32 0] rfl rfl 40 _ HRn.out (by kernel_rfl) rfl (by kernel_rfl) ?_
      rw [setRow_self n14 (w.heap.size + 1) #[Value.int IntKind.i64 0, Value.int IntKind.i64 0, Value.int IntKind.u16 0, Value.int IntKind.u16 0, Value.int IntKind.u32 0, Value.int IntKind.u32 0, Value.int IntKind.u32 0, Value.int IntKind.u32 0, Value.int IntKind.u32 0, Value.int IntKind.u16 0, Value.int IntKind.u16 0, Value.int IntKind.u32 0, Value.int IntKind.u32 0] 40 (0, 0) HRn.out]
      go_wp2
      refine bodyPost_ret (v := .tuple #[.agg #[Value.int IntKind.i64 0, Value.int IntKind.i64 0, Value.int IntKind.u16 0, Value.int IntKind.u16 0, Value.int IntKind.u32 0, Value.int IntKind.u32 0, Value.int IntKind.u32 0, Value.int IntKind.u32 0, Value.int IntKind.u32 0, Value.int IntKind.u16 0, Value.int IntKind.u16 0, Value.int IntKind.u32 0, Value.int IntKind.u32 0], .int .i64 6]) ?_ rfl ⟨by rw [HCO.out]; rfl, HBn.out⟩
      exact results_cell_tmp (p := 6) (q := 7) rfl _ n14 (w.heap.size + 1) 40 #[Value.int IntKind.i64 0, Value.int IntKind.i64 0, Value.int IntKind.u16 0, Value.int IntKind.u16 0, Value.int IntKind.u32 0, Value.int IntKind.u32 0, Value.int IntKind.u32 0, Value.int IntKind.u32 0, Value.int IntKind.u32 0, Value.int IntKind.u16 0, Value.int IntKind.u16 0, Value.int IntKind.u32 0, Value.int IntKind.u32 0] (0, 0) _ rfl HRn.out _ rfl Tryd.underlying40 rfl (by kernel_rfl)

    · have hl1 : 600 < V1 := by omega
      clear hlim h13
      go_wp2_with (with_reducible refine hold_op (o := ⟨none, _, _, _, _, _⟩) ?_)
      refine hid ?_
      refine wpList_store_row rfl 40 (.tmp 6) (.tmp 88) rfl (w.heap.size + 1) #[Value.int IntKind.i64 0, Value.int IntKind.i64 0, Value.int IntKind.u16 0, Value.int IntKind.u16 0, Value.int IntKind.u32 0, Value.int IntKind.u32 0, Value.int IntKind.u32 0, Value.int IntKind.u32 0, Value.int IntKind.u32 0, Value.int IntKind.u16 0, Value.int IntKind.u16 0, Value.int IntKind.u32 0, Value.int IntKind.u32 0] rfl rfl 40 _ HRn.out (by kernel_rfl) rfl (by kernel_rfl) ?_
      rw [setRow_self n14 (w.heap.size + 1) #[Value.int IntKind.i64 0, Value.int IntKind.i64 0, Value.int IntKind.u16 0, Value.int IntKind.u16 0, Value.int IntKind.u32 0, Value.int IntKind.u32 0, Value.int IntKind.u32 0, Value.int IntKind.u32 0, Value.int IntKind.u32 0, Value.int IntKind.u16 0, Value.int IntKind.u16 0, Value.int IntKind.u32 0, Value.int IntKind.u32 0] 40 (0, 0) HRn.out]
      go_wp2
      refine bodyPost_ret (v := .tuple #[.agg #[Value.int IntKind.i64 0, Value.int IntKind.i64 0, Value.int IntKind.u16 0, Value.int IntKind.u16 0, Value.int IntKind.u32 0, Value.int IntKind.u32 0, Value.int IntKind.u32 0, Value.int IntKind.u32 0, Value.int IntKind.u32 0, Value.int IntKind.u16 0, Value.int IntKind.u16 0, Value.int IntKind.u32 0, Value.int IntKind.u32 0], .int .i64 6]) ?_ rfl ⟨by rw [HCO.out]; rfl, HBn.out⟩
      exact results_cell_tmp (p := 6) (q := 7) rfl _ n14 (w.heap.size + 1) 40 #[Value.int IntKind.i64 0, Value.int IntKind.i64 0, Value.int IntKind.u16 0, Value.int IntKind.u16 0, Value.int IntKind.u32 0, Value.int IntKind.u32 0, Value.int IntKind.u32 0, Value.int IntKind.u32 0, Value.int IntKind.u32 0, Value.int IntKind.u16 0, Value.int IntKind.u16 0, Value.int IntKind.u32 0, Value.int IntKind.u32 0] (0, 0) _ rfl HRn.out _ rfl Tryd.underlying40 rfl (by kernel_rfl)

  have hm0 : ¬ 1099511627776 < V0 := fun h => hlim (.inl h)
  have hm1 : ¬ 600 < V1 := fun h => hlim (.inr h)
  have HLIM : Box (¬ (1099511627776 < V0 ∨ 600 < V1)) := ⟨hlim⟩
  clear hlim h13
  have yl0 : IntKind.i64.wrap V0 = V0 := IntWalk.i64_in _ (by omega)
  have yl1 : IntKind.i64.wrap V1 = V1 := IntWalk.i64_in _ (by omega)
  have yl2 : IntKind.i64.wrap (V0 + V1) = V0 + V1 := IntWalk.i64_in _ (by omega)
  have z0 : n14.cell? ⟨n13.heap.size, 0, none⟩ = some (.int .i64 0) := cellOf HA2.out rfl
  have z1 : (n14.setCell ⟨n13.heap.size, 0, none⟩ (.int .i64 V0)).cell? ⟨n13.heap.size, 1, none⟩ = some (.int .i64 0) := cellOf (hs HA2.out) rfl
  have zf : n14.frozen? ⟨n13.heap.size, 0, none⟩ = false := frozen_of_row _ _ _ _ _ HA2.out
  have zg : (n14.setCell ⟨n13.heap.size, 0, none⟩ (.int .i64 V0)).frozen? ⟨n13.heap.size, 1, none⟩ = false := frozen_of_row _ _ _ _ _ (hs HA2.out)
  have HA3 : Hid (((n14.setCell ⟨n13.heap.size, 0, none⟩ (.int .i64 V0)).setCell ⟨n13.heap.size, 1, none⟩ (.int .i64 V1)).heap[n13.heap.size]? = some (.cells (Ck.mk V0 V1 V2 V3 V4 V5 V6 V7 V8 V9 V10 V11 V12).cells 40 (0, 0))) := hid (hs (hs HA2.out))
  have HBo := hid ((HBn.out.setCell (show w.heap.size ≤ (⟨n13.heap.size, 0, none⟩ : Addr).block by have := HN14.out.big; show w.heap.size ≤ n13.heap.size; omega) (.int .i64 V0)).setCell (show w.heap.size ≤ (⟨n13.heap.size, 1, none⟩ : Addr).block by have := HN14.out.big; show w.heap.size ≤ n13.heap.size; omega) (.int .i64 V1))
  go_wp2_with (with_reducible refine hold_op (o := ⟨some 97, _, _, _, _, _⟩) ?_)
  refine hid ?_
  have HRo : Hid (((n14.setCell ⟨n13.heap.size, 0, none⟩ (.int .i64 V0)).setCell ⟨n13.heap.size, 1, none⟩ (.int .i64 V1)).heap[w.heap.size + 1]? = some (.cells #[Value.int IntKind.i64 0, Value.int IntKind.i64 0, Value.int IntKind.u16 0, Value.int IntKind.u16 0, Value.int IntKind.u32 0, Value.int IntKind.u32 0, Value.int IntKind.u32 0, Value.int IntKind.u32 0, Value.int IntKind.u32 0, Value.int IntKind.u16 0, Value.int IntKind.u16 0, Value.int IntKind.u32 0, Value.int IntKind.u32 0] 40 (0, 0))) := hid ((Below.heap_setCell _ _ _ _ (by have := HN14.out.big; show w.heap.size + 1 ≠ n13.heap.size; omega)).trans ((Below.heap_setCell _ _ _ _ (by have := HN14.out.big; show w.heap.size + 1 ≠ n13.heap.size; omega)).trans HRn.out))
  have hbig := HN14.out.big
  clear z0 z1 zf zg HA2 HBn HRn HN14 yl0 yl1
  generalize (n14.setCell ⟨n13.heap.size, 0, none⟩ (.int .i64 V0)).setCell ⟨n13.heap.size, 1, none⟩ (.int .i64 V1) = n15 at *
  have x0 : n15.cell? ⟨n13.heap.size, 0, none⟩ = some (.int .i64 V0) := cellOf HA3.out rfl
  have x1 : n15.cell? ⟨n13.heap.size, 1, none⟩ = some (.int .i64 V1) := cellOf HA3.out rfl
  by_cases hst : now < V0 ∨ V0 + V1 < now
  · have HCO : Box (ckOpen sec frm two bs now = (Ck.none, 8)) := ⟨by
      unfold ckOpen
      rw [if_neg HA.out, if_neg (by rw [HNB.out]; simp), if_neg HM1.out, if_neg (by rw [HV13.out]; simp), if_neg (by rw [HV0.out, HV1.out]; exact HLIM.out), if_pos (by rw [HV0.out, HV1.out]; exact hst)]⟩
    by_cases hs0 : now < V0
    · clear hst
      go_wp2_with (with_reducible refine hold_op (o := ⟨none, _, _, _, _, _⟩) ?_)
      refine hid ?_
      refine wpList_store_row rfl 40 (.tmp 6) (.tmp 108) rfl (w.heap.size + 1) #[Value.int IntKind.i64 0, Value.int IntKind.i64 0, Value.int IntKind.u16 0, Value.int IntKind.u16 0, Value.int IntKind.u32 0, Value.int IntKind.u32 0, Value.int IntKind.u32 0, Value.int IntKind.u32 0, Value.int IntKind.u32 0, Value.int IntKind.u16 0, Value.int IntKind.u16 0, Value.int IntKind.u32 0, Value.int IntKind.u32 0] rfl rfl 40 _ HRo.out (by kernel_rfl) rfl (by kernel_rfl) ?_
      rw [setRow_self n15 (w.heap.size + 1) #[Value.int IntKind.i64 0, Value.int IntKind.i64 0, Value.int IntKind.u16 0, Value.int IntKind.u16 0, Value.int IntKind.u32 0, Value.int IntKind.u32 0, Value.int IntKind.u32 0, Value.int IntKind.u32 0, Value.int IntKind.u32 0, Value.int IntKind.u16 0, Value.int IntKind.u16 0, Value.int IntKind.u32 0, Value.int IntKind.u32 0] 40 (0, 0) HRo.out]
      go_wp2
      refine bodyPost_ret (v := .tuple #[.agg #[Value.int IntKind.i64 0, Value.int IntKind.i64 0, Value.int IntKind.u16 0, Value.int IntKind.u16 0, Value.int IntKind.u32 0, Value.int IntKind.u32 0, Value.int IntKind.u32 0, Value.int IntKind.u32 0, Value.int IntKind.u32 0, Value.int IntKind.u16 0, Value.int IntKind.u16 0, Value.int IntKind.u32 0, Value.int IntKind.u32 0], .int .i64 8]) ?_ rfl ⟨by rw [HCO.out]; rfl, HBo.out⟩
      exact results_cell_tmp (p := 6) (q := 7) rfl _ n15 (w.heap.size + 1) 40 #[Value.int IntKind.i64 0, Value.int IntKind.i64 0, Value.int IntKind.u16 0, Value.int IntKind.u16 0, Value.int IntKind.u32 0, Value.int IntKind.u32 0, Value.int IntKind.u32 0, Value.int IntKind.u32 0, Value.int IntKind.u32 0, Value.int IntKind.u16 0, Value.int IntKind.u16 0, Value.int IntKind.u32 0, Value.int IntKind.u32 0] (0, 0) _ rfl HRo.out _ rfl Tryd.underlying40 rfl (by kernel_rfl)

    · have hs1 : V0 + V1 < now := by omega
      clear hst
      go_wp2_with (with_reducible refine hold_op (o := ⟨none, _, _, _, _, _⟩) ?_)
      refine hid ?_
      refine wpList_store_row rfl 40 (.tmp 6) (.tmp 108) rfl (w.heap.size + 1) #[Value.int IntKind.i64 0, Value.int IntKind.i64 0, Value.int IntKind.u16 0, Value.int IntKind.u16 0, Value.int IntKind.u32 0, Value.int IntKind.u32 0, Value.int IntKind.u32 0, Value.int IntKind.u32 0, Value.int IntKind.u32 0, Value.int IntKind.u16 0, Value.int IntKind.u16 0, Value.int IntKind.u32 0, Value.int IntKind.u32 0] rfl rfl 40 _ HRo.out (by kernel_rfl) rfl (by kernel_rfl) ?_
      rw [setRow_self n15 (w.heap.size + 1) #[Value.int IntKind.i64 0, Value.int IntKind.i64 0, Value.int IntKind.u16 0, Value.int IntKind.u16 0, Value.int IntKind.u32 0, Value.int IntKind.u32 0, Value.int IntKind.u32 0, Value.int IntKind.u32 0, Value.int IntKind.u32 0, Value.int IntKind.u16 0, Value.int IntKind.u16 0, Value.int IntKind.u32 0, Value.int IntKind.u32 0] 40 (0, 0) HRo.out]
      go_wp2
      refine bodyPost_ret (v := .tuple #[.agg #[Value.int IntKind.i64 0, Value.int IntKind.i64 0, Value.int IntKind.u16 0, Value.int IntKind.u16 0, Value.int IntKind.u32 0, Value.int IntKind.u32 0, Value.int IntKind.u32 0, Value.int IntKind.u32 0, Value.int IntKind.u32 0, Value.int IntKind.u16 0, Value.int IntKind.u16 0, Value.int IntKind.u32 0, Value.int IntKind.u32 0], .int .i64 8]) ?_ rfl ⟨by rw [HCO.out]; rfl, HBo.out⟩
      exact results_cell_tmp (p := 6) (q := 7) rfl _ n15 (w.heap.size + 1) 40 #[Value.int IntKind.i64 0, Value.int IntKind.i64 0, Value.int IntKind.u16 0, Value.int IntKind.u16 0, Value.int IntKind.u32 0, Value.int IntKind.u32 0, Value.int IntKind.u32 0, Value.int IntKind.u32 0, Value.int IntKind.u32 0, Value.int IntKind.u16 0, Value.int IntKind.u16 0, Value.int IntKind.u32 0, Value.int IntKind.u32 0] (0, 0) _ rfl HRo.out _ rfl Tryd.underlying40 rfl (by kernel_rfl)

  have HCO : Box (ckOpen sec frm two bs now = (Ck.mk V0 V1 V2 V3 V4 V5 V6 V7 V8 V9 V10 V11 V12, 0)) := ⟨by
    unfold ckOpen
    rw [if_neg HA.out, if_neg (by rw [HNB.out]; simp), if_neg HM1.out, if_neg (by rw [HV13.out]; simp), if_neg (by rw [HV0.out, HV1.out]; exact HLIM.out), if_neg (by rw [HV0.out, HV1.out]; exact hst), HCK.out]⟩
  have hs0 : ¬ now < V0 := fun h => hst (.inl h)
  have hs1 : ¬ V0 + V1 < now := fun h => hst (.inr h)
  clear hst
  go_wp2_with (with_reducible refine hold_op (o := ⟨some 109, _, _, _, _, _⟩) ?_)
  refine hid ?_
  refine wpList_load_row rfl 40 (.tmp 12) rfl n13.heap.size rfl 40 _ (0, 0) _ HA3.out Tryd.underlying40 rfl (by kernel_rfl) ?_
  refine wpList_store_row rfl 40 (.tmp 6) (.tmp 109) rfl (w.heap.size + 1) (Ck.mk V0 V1 V2 V3 V4 V5 V6 V7 V8 V9 V10 V11 V12).cells rfl rfl 40 _ HRo.out (by kernel_rfl) rfl (by simp [Ck.cells, Value.oneCell']) ?_
  have HZ := hid (setRow_heap n15 (w.heap.size + 1) _ (Ck.mk V0 V1 V2 V3 V4 V5 V6 V7 V8 V9 V10 V11 V12).cells 40 _ HRo.out)
  have HBz := hid (below_setRow HBo.out (Nat.le_succ _) (Ck.mk V0 V1 V2 V3 V4 V5 V6 V7 V8 V9 V10 V11 V12).cells)
  clear HRo HBo HA3 x0 x1
  generalize n15.setRow (w.heap.size + 1) (Ck.mk V0 V1 V2 V3 V4 V5 V6 V7 V8 V9 V10 V11 V12).cells = n16 at *
  dsimp only [Act.put]
  go_wp2
  refine bodyPost_ret (v := .tuple #[.agg (Ck.mk V0 V1 V2 V3 V4 V5 V6 V7 V8 V9 V10 V11 V12).cells, .int .i64 0]) ?_ rfl ⟨by rw [HCO.out], HBz.out⟩
  exact results_cell_tmp (p := 6) (q := 7) rfl _ n16 (w.heap.size + 1) 40 (Ck.mk V0 V1 V2 V3 V4 V5 V6 V7 V8 V9 V10 V11 V12).cells (0, 0) _ rfl HZ.out _ rfl Tryd.underlying40 rfl (by kernel_rfl)
end Go.Proofs.YtaieajfgcnaedaaDoor
