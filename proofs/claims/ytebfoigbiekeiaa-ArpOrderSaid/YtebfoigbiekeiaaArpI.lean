/-
  LAYER 9, WALKS: Take.
-/
import Derived.Test.YtebfoigbiekeiaaArpH
set_option linter.unusedVariables false
set_option linter.unusedSimpArgs false
namespace Go.Proofs.Ytebfoigbiekeiaa
open Go Go.RowKit

/-- A question in memory. -/
def QB (w : World) (q : Nat) (op fm fi tm ti : Int) : Prop := w.heap[q]? = some (.cells #[.int .i64 op, .int .u64 fm, .int .u32 fi, .int .u64 tm, .int .u32 ti] 40 (0, 0))
theorem QB.cells {w : World} {q : Nat} {op fm fi tm ti : Int} (h : QB w q op fm fi tm ti) : w.cell? ⟨q, 0, none⟩ = some (.int .i64 op) ∧ w.cell? ⟨q, 1, none⟩ = some (.int .u64 fm) ∧ w.cell? ⟨q, 2, none⟩ = some (.int .u32 fi) ∧ w.cell? ⟨q, 4, none⟩ = some (.int .u32 ti) := ⟨cellOf h rfl, cellOf h rfl, cellOf h rfl, cellOf h rfl⟩
theorem QB.kept {w w' : World} {q : Nat} {op fm fi tm ti : Int} (h : QB w q op fm fi tm ti) {row : Option Nat} (hg : w.grownBy w' row) (hne : some q ≠ row) : QB w' q op fm fi tm ti := (hg.block q (lt_of_block h) hne).trans h
theorem QB.below {w w' : World} {q : Nat} {op fm fi tm ti : Int} (h : QB w q op fm fi tm ti) (hb : Below w.heap.size w w') : QB w' q op fm fi tm ti := (hb.block q (lt_of_block h)).trans h
set_option maxHeartbeats 12800000 in
set_option maxRecDepth 100000 in
theorem take_calls (S : Nat → Prop) (g b : Nat) (M : List (Int × Value)) (s : Ar) (op fm fi tm ti now : Int) (hfm : 0 ≤ fm) (hfi : 0 ≤ fi ∧ fi < 4294967296) (w : World) (h : CSt S w g b M s) :
    Calls Try.prog 13 #[.pointer (some ⟨g, 0, none⟩), .agg #[.int .i64 op, .int .u64 fm, .int .u32 fi, .int .u64 tm, .int .u32 ti], .int .i64 now] w (Done S g b (s.take ⟨op, fm, fi, tm, ti⟩ now) w) := by
  have H := hid h; have HFI := hid hfi; have HFM0 := hid hfm
  clear h hfi hfm
  go_enter Try.func13, Try.ntmps13
  go_wp2_with (go_at_call 28; refine hold ?_)
  have hqa : QB (w.alloc (.cells #[.int .i64 op, .int .u64 fm, .int .u32 fi, .int .u64 tm, .int .u32 ti] 40)) w.heap.size op fm fi tm ti := heap_alloc_new w _
  have hba : Below w.heap.size w (w.alloc (.cells #[.int .i64 op, .int .u64 fm, .int .u32 fi, .int .u64 tm, .int .u32 ti] 40)) := (Below.refl _ _).alloc (Nat.le_refl _) _
  generalize w.alloc (.cells #[.int .i64 op, .int .u64 fm, .int .u32 fi, .int .u64 tm, .int .u32 ti] 40) = wA at *
  have HQA := hid hqa; have HBA := hid hba
  have HB := hid (begin_calls S g b M s now wA (H.out.below hba))
  clear hqa hba
  refine hid ?_
  refine Calls.mono HB.out ?_
  rintro e w1 ⟨rfl, hbad, hgood⟩
  by_cases hw : s.wrong now = 0
  · obtain ⟨hc1, hg1⟩ := hgood hw
    have HS : Hid (s.take ⟨op, fm, fi, tm, ti⟩ now = (s.at now).take2 ⟨op, fm, fi, tm, ti⟩ now) := hid (by unfold Ar.take; rw [if_neg (by rw [hw]; decide)])
    rw [hw]
    have HLA : Hid ((s.at now).last = now) := hid rfl
    generalize hs1 : s.at now = s1 at *
    have H1 := hid hc1
    have HQ1 := hid (HQA.out.kept hg1 (fun e => by injection e with e; have := H.out.lt; omega))
    have HG1 := hid ((Grown2.of_below g b HBA.out).trans (Grown2.of_left b hg1))
    have HBW := hid H.out.map.lt
    have HBQ1 := hid (show w.heap.size < w1.heap.size from lt_of_block HQ1.out)
    have HQB := HBQ1
    clear hbad hgood hw hc1 hg1 H HB HQA HBA
    have k1 : w1.drew.cell? ⟨w.heap.size, 1, none⟩ = some (.int .u64 fm) := HQ1.out.cells.2.1
    have k2 : w1.drew.cell? ⟨w.heap.size, 2, none⟩ = some (.int .u32 fi) := HQ1.out.cells.2.2.1
    have ki : w1.drew.cell? ⟨g, 1, none⟩ = some (.int .u32 s1.ip) := H1.out.cells.2.1
    have HCD := hid (H1.out.below (w' := w1.drew) (Below.refl _ _).drew)
    have HGD := hid (HG1.out.trans (Grown2.of_below (w' := w1.drew) g b (Below.refl _ _).drew))
    have HQD := hid (HQ1.out.below (w' := w1.drew) (Below.refl _ _).drew)
    have HSD := hid (show w1.heap.size ≤ w1.drew.heap.size from Nat.le_refl _)
    go_wp2_with fail
    refine wp_region_held_drew (S := fun W => W = w1.drew) (by kernel_rfl) rfl (fun hHeld => ?_)
    generalize w1.drew = w2 at *
    by_cases hip : fi = s1.ip
    · have hip1 : (fi == s1.ip) = true := by rw [hip]; simp
      have HX := hid (show s1.take2 ⟨op, fm, fi, tm, ti⟩ now = (s1, [], 12) from if_pos (.inl hip))
      refine wpAnyH_take (i := 0) (oi := { dst := some 20, op := Op.fieldAddr 40 (Operand.tmp 4) 2, type := 0, pos := "arp.go:118", after := #[], guard := none }) (v := ?_) rfl (by kernel_rfl) (by kernel_rfl) (by kernel_rfl) (fun _ _ _ h => h) (Or.inl ⟨by rfl, ?_⟩) hHeld ?_
      rotate_left
      · (intro w hSw; subst hSw; go_simp; first | with_reducible rfl | skip)
      try simp only [Act.put, List.setIfInBounds_toArray, List.set_cons_succ, List.set_cons_zero]
      refine wpAnyH_take (i := 1) (oi := { dst := some 21, op := Op.load 28 (Operand.tmp 20), type := 28, pos := "arp.go:118", after := #[{ on := 0, ground := Ground.data }], guard := none }) (v := ?_) rfl (by kernel_rfl) (by kernel_rfl) (by kernel_rfl) (fun _ _ _ h => h) (Or.inl ⟨by rfl, ?_⟩) hHeld ?_
      rotate_left
      · (intro w hSw; subst hSw; go_simp; first | with_reducible rfl | skip)
      try simp only [Act.put, List.setIfInBounds_toArray, List.set_cons_succ, List.set_cons_zero]
      refine wpAnyH_take (i := 2) (oi := { dst := some 22, op := Op.move (Operand.tmp 0), type := 23, pos := "arp.go:118", after := #[], guard := none }) (v := ?_) rfl (by kernel_rfl) (by kernel_rfl) (by kernel_rfl) (fun _ _ _ h => h) (Or.inl ⟨by rfl, ?_⟩) hHeld ?_
      rotate_left
      · (intro w hSw; subst hSw; go_simp; first | with_reducible rfl | skip)
      try simp only [Act.put, List.setIfInBounds_toArray, List.set_cons_succ, List.set_cons_zero]
      refine wpAnyH_take (i := 3) (oi := { dst := some 23, op := Op.nilCheck (Operand.tmp 22), type := 0, pos := "arp.go:118", after := #[{ on := 2, ground := Ground.data }], guard := none }) (v := ?_) rfl (by kernel_rfl) (by kernel_rfl) (by kernel_rfl) (fun _ _ _ h => h) (Or.inl ⟨by rfl, ?_⟩) hHeld ?_
      rotate_left
      · (intro w hSw; subst hSw; go_simp; first | with_reducible rfl | skip)
      try simp only [Act.put, List.setIfInBounds_toArray, List.set_cons_succ, List.set_cons_zero]
      refine wpAnyH_take (i := 4) (oi := { dst := some 24, op := Op.fieldAddr 72 (Operand.tmp 23) 1, type := 0, pos := "arp.go:118", after := #[{ on := 3, ground := Ground.data }], guard := none }) (v := ?_) rfl (by kernel_rfl) (by kernel_rfl) (by kernel_rfl) (fun _ _ _ h => h) (Or.inl ⟨by rfl, ?_⟩) hHeld ?_
      rotate_left
      · (intro w hSw; subst hSw; go_simp; first | with_reducible rfl | skip)
      try simp only [Act.put, List.setIfInBounds_toArray, List.set_cons_succ, List.set_cons_zero]
      refine wpAnyH_take (i := 5) (oi := { dst := some 25, op := Op.load 28 (Operand.tmp 24), type := 28, pos := "arp.go:118", after := #[{ on := 4, ground := Ground.data }], guard := none }) (v := ?_) rfl (by kernel_rfl) (by kernel_rfl) (by kernel_rfl) (fun _ _ _ h => h) (Or.inl ⟨by rfl, ?_⟩) hHeld ?_
      rotate_left
      · (intro w hSw; subst hSw; go_simp; first | with_reducible rfl | skip)
      try simp only [Act.put, List.setIfInBounds_toArray, List.set_cons_succ, List.set_cons_zero]
      refine wpAnyH_take (i := 6) (oi := { dst := some 26, op := Op.binOp BinOp.eql 28 (Operand.tmp 21) (Operand.tmp 25) 28, type := 4, pos := "arp.go:118", after := #[{ on := 1, ground := Ground.data }, { on := 5, ground := Ground.data }], guard := none }) (v := ?_) rfl (by kernel_rfl) (by kernel_rfl) (by kernel_rfl) (fun _ _ _ h => h) (Or.inl ⟨by rfl, ?_⟩) hHeld ?_
      rotate_left
      · (intro w hSw; subst hSw; go_simp; first | with_reducible rfl | skip)
      try simp only [Act.put, List.setIfInBounds_toArray, List.set_cons_succ, List.set_cons_zero]
      refine wpAnyH_take (i := 7) (oi := { dst := some 27, op := Op.move (Operand.tmp 26), type := 4, pos := "arp.go:118", after := #[{ on := 6, ground := Ground.data }], guard := none }) (v := ?_) rfl (by kernel_rfl) (by kernel_rfl) (by kernel_rfl) (fun _ _ _ h => h) (Or.inl ⟨by rfl, ?_⟩) hHeld ?_
      rotate_left
      · (intro w hSw; subst hSw; go_simp; first | with_reducible rfl | skip)
      try simp only [Act.put, List.setIfInBounds_toArray, List.set_cons_succ, List.set_cons_zero]
      refine wpAnyH_take (i := 8) (oi := { dst := some 28, op := Op.fieldAddr 40 (Operand.tmp 4) 1, type := 0, pos := "arp.go:118", after := #[{ on := 7, ground := Ground.guard }], guard := some (7, false) }) (v := undef) rfl (by kernel_rfl) (by kernel_rfl) (by kernel_rfl) (fun _ _ _ h => h) (Or.inr ⟨by rfl, rfl⟩) hHeld ?_
      try simp only [Act.put, List.setIfInBounds_toArray, List.set_cons_succ, List.set_cons_zero]
      refine wpAnyH_take (i := 9) (oi := { dst := some 29, op := Op.load 27 (Operand.tmp 28), type := 27, pos := "arp.go:118", after := #[{ on := 8, ground := Ground.data }, { on := 7, ground := Ground.guard }], guard := some (7, false) }) (v := undef) rfl (by kernel_rfl) (by kernel_rfl) (by kernel_rfl) (fun _ _ _ h => h) (Or.inr ⟨by rfl, rfl⟩) hHeld ?_
      try simp only [Act.put, List.setIfInBounds_toArray, List.set_cons_succ, List.set_cons_zero]
      refine wpAnyH_take (i := 10) (oi := { dst := some 30, op := Op.binOp BinOp.geq 27 (Operand.tmp 29) (Operand.const (Value.int IntKind.u64 281474976710655)) 27, type := 4, pos := "arp.go:118", after := #[{ on := 9, ground := Ground.data }, { on := 7, ground := Ground.guard }], guard := some (7, false) }) (v := undef) rfl (by kernel_rfl) (by kernel_rfl) (by kernel_rfl) (fun _ _ _ h => h) (Or.inr ⟨by rfl, rfl⟩) hHeld ?_
      try simp only [Act.put, List.setIfInBounds_toArray, List.set_cons_succ, List.set_cons_zero]
      refine wpAnyH_take (i := 11) (oi := { dst := some 31, op := Op.pick (Operand.tmp 27) (Operand.const (Value.bool true)) (Operand.tmp 30), type := 4, pos := "arp.go:118", after := #[{ on := 7, ground := Ground.data }, { on := 10, ground := Ground.data }], guard := none }) (v := ?_) rfl (by kernel_rfl) (by kernel_rfl) (by kernel_rfl) (fun _ _ _ h => h) (Or.inl ⟨by rfl, ?_⟩) hHeld ?_
      rotate_left
      · (intro w hSw; subst hSw; go_simp; first | with_reducible rfl | skip)
      try simp only [Act.put, List.setIfInBounds_toArray, List.set_cons_succ, List.set_cons_zero]
      refine wpAnyH_done (by kernel_rfl) ?_ _
      clear hHeld k1 k2 ki
      go_wp2
      go_ret2
      rw [HS.out]
      exact Done.bad HX.out HCD.out HGD.out
    · have hip1 : (fi == s1.ip) = false := by simpa using hip
      by_cases hfm1 : 281474976710655 ≤ fm
      · have HX := hid (show s1.take2 ⟨op, fm, fi, tm, ti⟩ now = (s1, [], 12) from if_pos (.inr hfm1))
        refine wpAnyH_take (i := 0) (oi := { dst := some 20, op := Op.fieldAddr 40 (Operand.tmp 4) 2, type := 0, pos := "arp.go:118", after := #[], guard := none }) (v := ?_) rfl (by kernel_rfl) (by kernel_rfl) (by kernel_rfl) (fun _ _ _ h => h) (Or.inl ⟨by rfl, ?_⟩) hHeld ?_
        rotate_left
        · (intro w hSw; subst hSw; go_simp; first | with_reducible rfl | skip)
        try simp only [Act.put, List.setIfInBounds_toArray, List.set_cons_succ, List.set_cons_zero]
        refine wpAnyH_take (i := 1) (oi := { dst := some 21, op := Op.load 28 (Operand.tmp 20), type := 28, pos := "arp.go:118", after := #[{ on := 0, ground := Ground.data }], guard := none }) (v := ?_) rfl (by kernel_rfl) (by kernel_rfl) (by kernel_rfl) (fun _ _ _ h => h) (Or.inl ⟨by rfl, ?_⟩) hHeld ?_
        rotate_left
        · (intro w hSw; subst hSw; go_simp; first | with_reducible rfl | skip)
        try simp only [Act.put, List.setIfInBounds_toArray, List.set_cons_succ, List.set_cons_zero]
        refine wpAnyH_take (i := 2) (oi := { dst := some 22, op := Op.move (Operand.tmp 0), type := 23, pos := "arp.go:118", after := #[], guard := none }) (v := ?_) rfl (by kernel_rfl) (by kernel_rfl) (by kernel_rfl) (fun _ _ _ h => h) (Or.inl ⟨by rfl, ?_⟩) hHeld ?_
        rotate_left
        · (intro w hSw; subst hSw; go_simp; first | with_reducible rfl | skip)
        try simp only [Act.put, List.setIfInBounds_toArray, List.set_cons_succ, List.set_cons_zero]
        refine wpAnyH_take (i := 3) (oi := { dst := some 23, op := Op.nilCheck (Operand.tmp 22), type := 0, pos := "arp.go:118", after := #[{ on := 2, ground := Ground.data }], guard := none }) (v := ?_) rfl (by kernel_rfl) (by kernel_rfl) (by kernel_rfl) (fun _ _ _ h => h) (Or.inl ⟨by rfl, ?_⟩) hHeld ?_
        rotate_left
        · (intro w hSw; subst hSw; go_simp; first | with_reducible rfl | skip)
        try simp only [Act.put, List.setIfInBounds_toArray, List.set_cons_succ, List.set_cons_zero]
        refine wpAnyH_take (i := 4) (oi := { dst := some 24, op := Op.fieldAddr 72 (Operand.tmp 23) 1, type := 0, pos := "arp.go:118", after := #[{ on := 3, ground := Ground.data }], guard := none }) (v := ?_) rfl (by kernel_rfl) (by kernel_rfl) (by kernel_rfl) (fun _ _ _ h => h) (Or.inl ⟨by rfl, ?_⟩) hHeld ?_
        rotate_left
        · (intro w hSw; subst hSw; go_simp; first | with_reducible rfl | skip)
        try simp only [Act.put, List.setIfInBounds_toArray, List.set_cons_succ, List.set_cons_zero]
        refine wpAnyH_take (i := 5) (oi := { dst := some 25, op := Op.load 28 (Operand.tmp 24), type := 28, pos := "arp.go:118", after := #[{ on := 4, ground := Ground.data }], guard := none }) (v := ?_) rfl (by kernel_rfl) (by kernel_rfl) (by kernel_rfl) (fun _ _ _ h => h) (Or.inl ⟨by rfl, ?_⟩) hHeld ?_
        rotate_left
        · (intro w hSw; subst hSw; go_simp; first | with_reducible rfl | skip)
        try simp only [Act.put, List.setIfInBounds_toArray, List.set_cons_succ, List.set_cons_zero]
        refine wpAnyH_take (i := 6) (oi := { dst := some 26, op := Op.binOp BinOp.eql 28 (Operand.tmp 21) (Operand.tmp 25) 28, type := 4, pos := "arp.go:118", after := #[{ on := 1, ground := Ground.data }, { on := 5, ground := Ground.data }], guard := none }) (v := ?_) rfl (by kernel_rfl) (by kernel_rfl) (by kernel_rfl) (fun _ _ _ h => h) (Or.inl ⟨by rfl, ?_⟩) hHeld ?_
        rotate_left
        · (intro w hSw; subst hSw; go_simp; first | with_reducible rfl | skip)
        try simp only [Act.put, List.setIfInBounds_toArray, List.set_cons_succ, List.set_cons_zero]
        refine wpAnyH_take (i := 7) (oi := { dst := some 27, op := Op.move (Operand.tmp 26), type := 4, pos := "arp.go:118", after := #[{ on := 6, ground := Ground.data }], guard := none }) (v := ?_) rfl (by kernel_rfl) (by kernel_rfl) (by kernel_rfl) (fun _ _ _ h => h) (Or.inl ⟨by rfl, ?_⟩) hHeld ?_
        rotate_left
        · (intro w hSw; subst hSw; go_simp; first | with_reducible rfl | skip)
        try simp only [Act.put, List.setIfInBounds_toArray, List.set_cons_succ, List.set_cons_zero]
        refine wpAnyH_take (i := 8) (oi := { dst := some 28, op := Op.fieldAddr 40 (Operand.tmp 4) 1, type := 0, pos := "arp.go:118", after := #[{ on := 7, ground := Ground.guard }], guard := some (7, false) }) (v := ?_) rfl (by kernel_rfl) (by kernel_rfl) (by kernel_rfl) (fun _ _ _ h => h) (Or.inl ⟨by rfl, ?_⟩) hHeld ?_
        rotate_left
        · (intro w hSw; subst hSw; go_simp; first | with_reducible rfl | skip)
        try simp only [Act.put, List.setIfInBounds_toArray, List.set_cons_succ, List.set_cons_zero]
        refine wpAnyH_take (i := 9) (oi := { dst := some 29, op := Op.load 27 (Operand.tmp 28), type := 27, pos := "arp.go:118", after := #[{ on := 8, ground := Ground.data }, { on := 7, ground := Ground.guard }], guard := some (7, false) }) (v := ?_) rfl (by kernel_rfl) (by kernel_rfl) (by kernel_rfl) (fun _ _ _ h => h) (Or.inl ⟨by rfl, ?_⟩) hHeld ?_
        rotate_left
        · (intro w hSw; subst hSw; go_simp; first | with_reducible rfl | skip)
        try simp only [Act.put, List.setIfInBounds_toArray, List.set_cons_succ, List.set_cons_zero]
        refine wpAnyH_take (i := 10) (oi := { dst := some 30, op := Op.binOp BinOp.geq 27 (Operand.tmp 29) (Operand.const (Value.int IntKind.u64 281474976710655)) 27, type := 4, pos := "arp.go:118", after := #[{ on := 9, ground := Ground.data }, { on := 7, ground := Ground.guard }], guard := some (7, false) }) (v := ?_) rfl (by kernel_rfl) (by kernel_rfl) (by kernel_rfl) (fun _ _ _ h => h) (Or.inl ⟨by rfl, ?_⟩) hHeld ?_
        rotate_left
        · (intro w hSw; subst hSw; go_simp; first | with_reducible rfl | skip)
        try simp only [Act.put, List.setIfInBounds_toArray, List.set_cons_succ, List.set_cons_zero]
        refine wpAnyH_take (i := 11) (oi := { dst := some 31, op := Op.pick (Operand.tmp 27) (Operand.const (Value.bool true)) (Operand.tmp 30), type := 4, pos := "arp.go:118", after := #[{ on := 7, ground := Ground.data }, { on := 10, ground := Ground.data }], guard := none }) (v := ?_) rfl (by kernel_rfl) (by kernel_rfl) (by kernel_rfl) (fun _ _ _ h => h) (Or.inl ⟨by rfl, ?_⟩) hHeld ?_
        rotate_left
        · (intro w hSw; subst hSw; go_simp; first | with_reducible rfl | skip)
        try simp only [Act.put, List.setIfInBounds_toArray, List.set_cons_succ, List.set_cons_zero]
        refine wpAnyH_done (by kernel_rfl) ?_ _
        clear hHeld k1 k2 ki
        go_wp2
        go_ret2
        rw [HS.out]
        exact Done.bad HX.out HCD.out HGD.out
      · have HNB : Hid (¬ (fi = s1.ip ∨ 281474976710655 ≤ fm)) := hid (fun h => h.elim hip hfm1)
        have HFM := hid (show 0 ≤ fm ∧ fm < 281474976710655 from ⟨HFM0.out, by omega⟩)
        refine wpAnyH_take (i := 0) (oi := { dst := some 20, op := Op.fieldAddr 40 (Operand.tmp 4) 2, type := 0, pos := "arp.go:118", after := #[], guard := none }) (v := ?_) rfl (by kernel_rfl) (by kernel_rfl) (by kernel_rfl) (fun _ _ _ h => h) (Or.inl ⟨by rfl, ?_⟩) hHeld ?_
        rotate_left
        · (intro w hSw; subst hSw; go_simp; first | with_reducible rfl | skip)
        try simp only [Act.put, List.setIfInBounds_toArray, List.set_cons_succ, List.set_cons_zero]
        refine wpAnyH_take (i := 1) (oi := { dst := some 21, op := Op.load 28 (Operand.tmp 20), type := 28, pos := "arp.go:118", after := #[{ on := 0, ground := Ground.data }], guard := none }) (v := ?_) rfl (by kernel_rfl) (by kernel_rfl) (by kernel_rfl) (fun _ _ _ h => h) (Or.inl ⟨by rfl, ?_⟩) hHeld ?_
        rotate_left
        · (intro w hSw; subst hSw; go_simp; first | with_reducible rfl | skip)
        try simp only [Act.put, List.setIfInBounds_toArray, List.set_cons_succ, List.set_cons_zero]
        refine wpAnyH_take (i := 2) (oi := { dst := some 22, op := Op.move (Operand.tmp 0), type := 23, pos := "arp.go:118", after := #[], guard := none }) (v := ?_) rfl (by kernel_rfl) (by kernel_rfl) (by kernel_rfl) (fun _ _ _ h => h) (Or.inl ⟨by rfl, ?_⟩) hHeld ?_
        rotate_left
        · (intro w hSw; subst hSw; go_simp; first | with_reducible rfl | skip)
        try simp only [Act.put, List.setIfInBounds_toArray, List.set_cons_succ, List.set_cons_zero]
        refine wpAnyH_take (i := 3) (oi := { dst := some 23, op := Op.nilCheck (Operand.tmp 22), type := 0, pos := "arp.go:118", after := #[{ on := 2, ground := Ground.data }], guard := none }) (v := ?_) rfl (by kernel_rfl) (by kernel_rfl) (by kernel_rfl) (fun _ _ _ h => h) (Or.inl ⟨by rfl, ?_⟩) hHeld ?_
        rotate_left
        · (intro w hSw; subst hSw; go_simp; first | with_reducible rfl | skip)
        try simp only [Act.put, List.setIfInBounds_toArray, List.set_cons_succ, List.set_cons_zero]
        refine wpAnyH_take (i := 4) (oi := { dst := some 24, op := Op.fieldAddr 72 (Operand.tmp 23) 1, type := 0, pos := "arp.go:118", after := #[{ on := 3, ground := Ground.data }], guard := none }) (v := ?_) rfl (by kernel_rfl) (by kernel_rfl) (by kernel_rfl) (fun _ _ _ h => h) (Or.inl ⟨by rfl, ?_⟩) hHeld ?_
        rotate_left
        · (intro w hSw; subst hSw; go_simp; first | with_reducible rfl | skip)
        try simp only [Act.put, List.setIfInBounds_toArray, List.set_cons_succ, List.set_cons_zero]
        refine wpAnyH_take (i := 5) (oi := { dst := some 25, op := Op.load 28 (Operand.tmp 24), type := 28, pos := "arp.go:118", after := #[{ on := 4, ground := Ground.data }], guard := none }) (v := ?_) rfl (by kernel_rfl) (by kernel_rfl) (by kernel_rfl) (fun _ _ _ h => h) (Or.inl ⟨by rfl, ?_⟩) hHeld ?_
        rotate_left
        · (intro w hSw; subst hSw; go_simp; first | with_reducible rfl | skip)
        try simp only [Act.put, List.setIfInBounds_toArray, List.set_cons_succ, List.set_cons_zero]
        refine wpAnyH_take (i := 6) (oi := { dst := some 26, op := Op.binOp BinOp.eql 28 (Operand.tmp 21) (Operand.tmp 25) 28, type := 4, pos := "arp.go:118", after := #[{ on := 1, ground := Ground.data }, { on := 5, ground := Ground.data }], guard := none }) (v := ?_) rfl (by kernel_rfl) (by kernel_rfl) (by kernel_rfl) (fun _ _ _ h => h) (Or.inl ⟨by rfl, ?_⟩) hHeld ?_
        rotate_left
        · (intro w hSw; subst hSw; go_simp; first | with_reducible rfl | skip)
        try simp only [Act.put, List.setIfInBounds_toArray, List.set_cons_succ, List.set_cons_zero]
        refine wpAnyH_take (i := 7) (oi := { dst := some 27, op := Op.move (Operand.tmp 26), type := 4, pos := "arp.go:118", after := #[{ on := 6, ground := Ground.data }], guard := none }) (v := ?_) rfl (by kernel_rfl) (by kernel_rfl) (by kernel_rfl) (fun _ _ _ h => h) (Or.inl ⟨by rfl, ?_⟩) hHeld ?_
        rotate_left
        · (intro w hSw; subst hSw; go_simp; first | with_reducible rfl | skip)
        try simp only [Act.put, List.setIfInBounds_toArray, List.set_cons_succ, List.set_cons_zero]
        refine wpAnyH_take (i := 8) (oi := { dst := some 28, op := Op.fieldAddr 40 (Operand.tmp 4) 1, type := 0, pos := "arp.go:118", after := #[{ on := 7, ground := Ground.guard }], guard := some (7, false) }) (v := ?_) rfl (by kernel_rfl) (by kernel_rfl) (by kernel_rfl) (fun _ _ _ h => h) (Or.inl ⟨by rfl, ?_⟩) hHeld ?_
        rotate_left
        · (intro w hSw; subst hSw; go_simp; first | with_reducible rfl | skip)
        try simp only [Act.put, List.setIfInBounds_toArray, List.set_cons_succ, List.set_cons_zero]
        refine wpAnyH_take (i := 9) (oi := { dst := some 29, op := Op.load 27 (Operand.tmp 28), type := 27, pos := "arp.go:118", after := #[{ on := 8, ground := Ground.data }, { on := 7, ground := Ground.guard }], guard := some (7, false) }) (v := ?_) rfl (by kernel_rfl) (by kernel_rfl) (by kernel_rfl) (fun _ _ _ h => h) (Or.inl ⟨by rfl, ?_⟩) hHeld ?_
        rotate_left
        · (intro w hSw; subst hSw; go_simp; first | with_reducible rfl | skip)
        try simp only [Act.put, List.setIfInBounds_toArray, List.set_cons_succ, List.set_cons_zero]
        refine wpAnyH_take (i := 10) (oi := { dst := some 30, op := Op.binOp BinOp.geq 27 (Operand.tmp 29) (Operand.const (Value.int IntKind.u64 281474976710655)) 27, type := 4, pos := "arp.go:118", after := #[{ on := 9, ground := Ground.data }, { on := 7, ground := Ground.guard }], guard := some (7, false) }) (v := ?_) rfl (by kernel_rfl) (by kernel_rfl) (by kernel_rfl) (fun _ _ _ h => h) (Or.inl ⟨by rfl, ?_⟩) hHeld ?_
        rotate_left
        · (intro w hSw; subst hSw; go_simp; first | with_reducible rfl | skip)
        try simp only [Act.put, List.setIfInBounds_toArray, List.set_cons_succ, List.set_cons_zero]
        refine wpAnyH_take (i := 11) (oi := { dst := some 31, op := Op.pick (Operand.tmp 27) (Operand.const (Value.bool true)) (Operand.tmp 30), type := 4, pos := "arp.go:118", after := #[{ on := 7, ground := Ground.data }, { on := 10, ground := Ground.data }], guard := none }) (v := ?_) rfl (by kernel_rfl) (by kernel_rfl) (by kernel_rfl) (fun _ _ _ h => h) (Or.inl ⟨by rfl, ?_⟩) hHeld ?_
        rotate_left
        · (intro w hSw; subst hSw; go_simp; first | with_reducible rfl | skip)
        try simp only [Act.put, List.setIfInBounds_toArray, List.set_cons_succ, List.set_cons_zero]
        refine wpAnyH_done (by kernel_rfl) ?_ _
        clear hHeld k1 k2 ki hip1 hfm1 hip HFM0
        go_wp2_with fail
        have k2 : w2.drew.cell? ⟨w.heap.size, 2, none⟩ = some (.int .u32 fi) := HQD.out.cells.2.2.1
        have km : w2.drew.cell? ⟨g, 3, none⟩ = some (.map (some b)) := HCD.out.cells.2.2.2.1
        have HCE := hid (HCD.out.below (w' := w2.drew) (Below.refl _ _).drew)
        have HGE := hid (HGD.out.trans (Grown2.of_below (w' := w2.drew) g b (Below.refl _ _).drew))
        have HQE := hid (HQD.out.below (w' := w2.drew) (Below.refl _ _).drew)
        have HSE := hid (show w1.heap.size ≤ w2.drew.heap.size from HSD.out)
        clear HCD HGD HQD HSD
        refine wp_region_held_drew (S := fun W => Below w2.drew.heap.size w2.drew W) (by kernel_rfl) (Below.refl _ _) (fun hHeld => ?_)
        generalize w2.drew = w3 at *
        have HLKE := hid (HCE.out)
        obtain ⟨th, e, A1, n1, c1, hv1, hth, hwt, hcase⟩ : ∃ (th : Bool) (e : En) (A1 : Option Addr) (n1 c1 : Nat), (lookK fi M).getD (.agg #[.bool false, .int .u64 0, .int .i64 0, .int .i64 0, .slice none 0 0]) = .agg (enC e A1 n1 c1) ∧ (lookK fi M).isSome = th ∧ WaitS S w3 A1 n1 c1 e.wait ∧ ((th = true ∧ lookK fi s1.m = some e) ∨ (th = false ∧ lookK fi s1.m = none ∧ e = ⟨false, 0, 0, 0, []⟩)) := by
          rcases HCE.out.ent.look (x := fi) with ⟨hl1, hl2⟩ | ⟨v, e, hl1, hl2, A1, n1, c1, rfl, hwt⟩
          · exact ⟨false, ⟨false, 0, 0, 0, []⟩, none, 0, 0, by rw [hl1]; rfl, by rw [hl1]; rfl, WaitS.none _ _, .inr ⟨rfl, hl2, rfl⟩⟩
          · exact ⟨true, e, A1, n1, c1, by rw [hl1]; rfl, by rw [hl1]; rfl, hwt, .inl ⟨rfl, hl2⟩⟩
        have HCA := hid hcase
        have HWT := hid hwt
        have HLR : Hid (∀ W, Below w3.heap.size w3 W → (Instr.lookup 70 (.map (some b)) (.int .u32 fi) true).run Try.prog W = .ok (.tuple #[.agg (enC e A1 n1 c1), .bool th]) W) := hid (fun W hW => by
          have hl := (HCE.out.below hW).map.look Try.underlying28 Try.underlying70 (zeroEn W) HFI.out
          rw [hv1, hth] at hl
          exact hl)
        clear hcase hwt hv1 hth HLKE
        refine wpAnyH_take (i := 0) (oi := { dst := some 33, op := Op.move (Operand.tmp 0), type := 23, pos := "arp.go:122", after := #[], guard := none }) (v := ?_) rfl (by kernel_rfl) (by kernel_rfl) (by kernel_rfl) (fun _ _ _ h => h) (Or.inl ⟨by rfl, ?_⟩) hHeld ?_
        rotate_left
        · (intro W hSw; have k2 := (HQE.out.below hSw).cells.2.2.1; have km := (HCE.out.below hSw).cells.2.2.2.1; go_simp; first | with_reducible rfl | skip)
        try simp only [Act.put, List.setIfInBounds_toArray, List.set_cons_succ, List.set_cons_zero]
        refine wpAnyH_take (i := 1) (oi := { dst := some 34, op := Op.nilCheck (Operand.tmp 33), type := 0, pos := "arp.go:122", after := #[{ on := 0, ground := Ground.data }], guard := none }) (v := ?_) rfl (by kernel_rfl) (by kernel_rfl) (by kernel_rfl) (fun _ _ _ h => h) (Or.inl ⟨by rfl, ?_⟩) hHeld ?_
        rotate_left
        · (intro W hSw; have k2 := (HQE.out.below hSw).cells.2.2.1; have km := (HCE.out.below hSw).cells.2.2.2.1; go_simp; first | with_reducible rfl | skip)
        try simp only [Act.put, List.setIfInBounds_toArray, List.set_cons_succ, List.set_cons_zero]
        refine wpAnyH_take (i := 2) (oi := { dst := some 35, op := Op.fieldAddr 72 (Operand.tmp 34) 3, type := 0, pos := "arp.go:122", after := #[{ on := 1, ground := Ground.data }], guard := none }) (v := ?_) rfl (by kernel_rfl) (by kernel_rfl) (by kernel_rfl) (fun _ _ _ h => h) (Or.inl ⟨by rfl, ?_⟩) hHeld ?_
        rotate_left
        · (intro W hSw; have k2 := (HQE.out.below hSw).cells.2.2.1; have km := (HCE.out.below hSw).cells.2.2.2.1; go_simp; first | with_reducible rfl | skip)
        try simp only [Act.put, List.setIfInBounds_toArray, List.set_cons_succ, List.set_cons_zero]
        refine wpAnyH_take (i := 3) (oi := { dst := some 36, op := Op.load 70 (Operand.tmp 35), type := 70, pos := "arp.go:122", after := #[{ on := 2, ground := Ground.data }], guard := none }) (v := ?_) rfl (by kernel_rfl) (by kernel_rfl) (by kernel_rfl) (fun _ _ _ h => h) (Or.inl ⟨by rfl, ?_⟩) hHeld ?_
        rotate_left
        · (intro W hSw; have k2 := (HQE.out.below hSw).cells.2.2.1; have km := (HCE.out.below hSw).cells.2.2.2.1; go_simp; first | with_reducible rfl | skip)
        try simp only [Act.put, List.setIfInBounds_toArray, List.set_cons_succ, List.set_cons_zero]
        refine wpAnyH_take (i := 4) (oi := { dst := some 37, op := Op.fieldAddr 40 (Operand.tmp 4) 2, type := 0, pos := "arp.go:122", after := #[], guard := none }) (v := ?_) rfl (by kernel_rfl) (by kernel_rfl) (by kernel_rfl) (fun _ _ _ h => h) (Or.inl ⟨by rfl, ?_⟩) hHeld ?_
        rotate_left
        · (intro W hSw; have k2 := (HQE.out.below hSw).cells.2.2.1; have km := (HCE.out.below hSw).cells.2.2.2.1; go_simp; first | with_reducible rfl | skip)
        try simp only [Act.put, List.setIfInBounds_toArray, List.set_cons_succ, List.set_cons_zero]
        refine wpAnyH_take (i := 5) (oi := { dst := some 38, op := Op.load 28 (Operand.tmp 37), type := 28, pos := "arp.go:122", after := #[{ on := 4, ground := Ground.data }], guard := none }) (v := ?_) rfl (by kernel_rfl) (by kernel_rfl) (by kernel_rfl) (fun _ _ _ h => h) (Or.inl ⟨by rfl, ?_⟩) hHeld ?_
        rotate_left
        · (intro W hSw; have k2 := (HQE.out.below hSw).cells.2.2.1; have km := (HCE.out.below hSw).cells.2.2.2.1; go_simp; first | with_reducible rfl | skip)
        try simp only [Act.put, List.setIfInBounds_toArray, List.set_cons_succ, List.set_cons_zero]
        refine wpAnyH_take (i := 6) (oi := { dst := some 39, op := Op.lookup 70 (Operand.tmp 36) (Operand.tmp 38) true, type := 79, pos := "arp.go:122", after := #[{ on := 3, ground := Ground.data }, { on := 5, ground := Ground.data }], guard := none }) (v := ?_) rfl (by kernel_rfl) (by kernel_rfl) (by kernel_rfl) (fun _ _ _ h => h) (Or.inl ⟨by rfl, ?_⟩) hHeld ?_
        rotate_left
        · (intro W hSw; have hl := HLR.out W hSw; go_simp; first | with_reducible rfl | (rw [hl]; rfl))
        try simp only [Act.put, List.setIfInBounds_toArray, List.set_cons_succ, List.set_cons_zero]
        refine wpAnyH_take (i := 7) (oi := { dst := some 32, op := Op.move (Operand.tmp 39), type := 79, pos := "arp.go:122", after := #[{ on := 6, ground := Ground.data }], guard := none }) (v := ?_) rfl (by kernel_rfl) (by kernel_rfl) (by kernel_rfl) (fun _ _ _ h => h) (Or.inl ⟨by rfl, ?_⟩) hHeld ?_
        rotate_left
        · (intro W hSw; have k2 := (HQE.out.below hSw).cells.2.2.1; have km := (HCE.out.below hSw).cells.2.2.2.1; go_simp; first | with_reducible rfl | skip)
        try simp only [Act.put, List.setIfInBounds_toArray, List.set_cons_succ, List.set_cons_zero]
        refine wpAnyH_take (i := 8) (oi := { dst := some 40, op := Op.extract (Operand.tmp 32) 0, type := 78, pos := "arp.go:122", after := #[{ on := 7, ground := Ground.data }], guard := none }) (v := ?_) rfl (by kernel_rfl) (by kernel_rfl) (by kernel_rfl) (fun _ _ _ h => h) (Or.inl ⟨by rfl, ?_⟩) hHeld ?_
        rotate_left
        · (intro W hSw; have k2 := (HQE.out.below hSw).cells.2.2.1; have km := (HCE.out.below hSw).cells.2.2.2.1; go_simp; first | with_reducible rfl | skip)
        try simp only [Act.put, List.setIfInBounds_toArray, List.set_cons_succ, List.set_cons_zero]
        refine wpAnyH_take (i := 9) (oi := { dst := some 41, op := Op.extract (Operand.tmp 32) 1, type := 4, pos := "arp.go:122", after := #[{ on := 7, ground := Ground.data }, { on := 11, ground := Ground.gcOnly Departure.lateStores }], guard := none }) (v := ?_) rfl (by kernel_rfl) (by kernel_rfl) (by kernel_rfl) (fun _ _ _ h => h) (Or.inl ⟨by rfl, ?_⟩) hHeld ?_
        rotate_left
        · (intro W hSw; have k2 := (HQE.out.below hSw).cells.2.2.1; have km := (HCE.out.below hSw).cells.2.2.2.1; go_simp; first | with_reducible rfl | skip)
        try simp only [Act.put, List.setIfInBounds_toArray, List.set_cons_succ, List.set_cons_zero]
        refine wpAnyH_ready (rs := [10]) (by kernel_rfl) (by simp) ?_
        refine AllReadyH.cons (o := _) rfl (fun K hK => ?_) AllReadyH.nil
        go_simp
        refine hK.out _ _ ((Below.refl _ _).alloc (Nat.le_refl _) _) (fun hHeld => ?_)
        clear hK K
        have hO1 : (w3.alloc (.cells #[.bool false, .int .u64 0, .int .i64 0, .int .i64 0, .slice none 0 0] 78)).heap[w3.heap.size]? = some (.cells #[.bool false, .int .u64 0, .int .i64 0, .int .i64 0, .slice none 0 0] 78 (0, 0)) := heap_alloc_new _ _
        have hP1 : Below w3.heap.size w3 (w3.alloc (.cells #[.bool false, .int .u64 0, .int .i64 0, .int .i64 0, .slice none 0 0] 78)) := (Below.refl _ _).alloc (Nat.le_refl _) _
        generalize w3.alloc (.cells #[.bool false, .int .u64 0, .int .i64 0, .int .i64 0, .slice none 0 0] 78) = wb at *
        try simp only [Act.put, List.setIfInBounds_toArray, List.set_cons_succ, List.set_cons_zero]
        refine wpAnyH_ready (rs := [11]) (by kernel_rfl) (by simp) ?_
        refine AllReadyH.cons (o := _) rfl (fun K hK => ?_) AllReadyH.nil
        refine wp_store_row 78 (.tmp 10) (.tmp 40) rfl w3.heap.size (enC e A1 n1 c1) rfl rfl 78 _ hO1 (by kernel_rfl) rfl (by kernel_rfl) ?_
        have hW := setRow_heap wb w3.heap.size _ (enC e A1 n1 c1) 78 _ hO1
        have hBW := below_setRow hP1 (Nat.le_refl _) (enC e A1 n1 c1)
        generalize wb.setRow w3.heap.size (enC e A1 n1 c1) = w4 at *
        refine hK.out _ _ hBW (fun hHeld => ?_)
        clear hK K hO1 hP1
        try simp only [Act.put, List.setIfInBounds_toArray, List.set_cons_succ, List.set_cons_zero]
        refine wpAnyH_ready (rs := [12]) (by kernel_rfl) (by simp) ?_
        refine AllReadyH.cons (o := _) rfl (fun K hK => ?_) AllReadyH.nil
        go_simp
        refine hK.out _ _ hBW (fun hHeld => ?_)
        clear hK K
        try simp only [Act.put, List.setIfInBounds_toArray, List.set_cons_succ, List.set_cons_zero]
        refine wpAnyH_done (by kernel_rfl) ?_ _
        have HC4 := hid (HCE.out.below hBW)
        have HG4 := hid (HGE.out.trans (Grown2.of_below g b hBW))
        have HQ4 := hid (HQE.out.below hBW)
        have HW4 := hid (HWT.out.agree (Agree.of_below hBW HCE.out.sl))
        have HE4 := hid hW
        have HS4 := hid (Nat.le_trans HSE.out hBW.size)
        have HN1 := hid HWT.out.len
        have HSEE := HSE
        obtain ⟨en, hen⟩ : ∃ en, en = w3.heap.size := ⟨_, rfl⟩
        have HEN : Hid (w1.heap.size ≤ en) := hid (by rw [hen]; exact HSE.out)
        rw [← hen] at HE4 ⊢
        clear hen hHeld k2 km hW hBW HCE HGE HQE HSE HSEE HWT HLR
        obtain ⟨kn, mc, att, trs, L⟩ := e
        simp only at HCA HE4 HW4 HN1 ⊢
        go_wp2_with fail
        have j4 : w4.drew.cell? ⟨w.heap.size, 4, none⟩ = some (.int .u32 ti) := HQ4.out.cells.2.2.2
        have ji : w4.drew.cell? ⟨g, 1, none⟩ = some (.int .u32 s1.ip) := HC4.out.cells.2.1
        have hbd : Below w4.heap.size w4 w4.drew := (Below.refl _ _).drew
        have HC5 := hid (HC4.out.below hbd)
        have HG5 := hid (HG4.out.trans (Grown2.of_below g b hbd))
        have HQ5 := hid (HQ4.out.below hbd)
        have HW5 := hid (HW4.out.agree (Agree.of_below hbd HC4.out.sl))
        have HE5 := hid ((hbd.block en (lt_of_block HE4.out)).trans HE4.out)
        have HS5 := hid (Nat.le_trans HS4.out hbd.size)
        clear hbd HC4 HG4 HQ4 HW4 HE4 HS4
        refine wp_region_held_drew (S := fun W => W.cell? ⟨w.heap.size, 4, none⟩ = some (.int .u32 ti) ∧ W.cell? ⟨g, 1, none⟩ = some (.int .u32 s1.ip)) (by kernel_rfl) ⟨j4, ji⟩ (fun hHeld => ?_)
        generalize w4.drew = w5 at *
        cases th with
        | true =>
          have hlk : lookK fi s1.m = some ⟨kn, mc, att, trs, L⟩ := by
            rcases HCA.out with ⟨_, h2⟩ | ⟨h1, _⟩
            · exact h2
            · cases h1
          have HX := hid (show s1.take2 ⟨op, fm, fi, tm, ti⟩ now = ({ s1 with m := putK fi ⟨true, fm, now, 0, []⟩ s1.m }, L.map (s1.bodyF fm) ++ s1.answer ⟨op, fm, fi, tm, ti⟩, 0) by
            unfold Ar.take2
            rw [if_neg HNB.out]
            simp only [hlk])
          have hen := H1.out.ok.en _ (lookK_some hlk)
          have HBO := hid hen.2.2.2.2.2.2.2.2
          have hn4 : n1 ≤ 4 := by have h1 := hen.2.2.2.2.2.2.1; have h2 := HN1.out; simp only at h1; omega
          have HN4 := hid hn4
          have HML : Hid (s1.mac = s1.mac ∧ s1.ip = s1.ip ∧ s1.last = now) := hid ⟨rfl, rfl, HLA.out⟩
          have HPF : Hid ((putK fi (⟨true, fm, now, 0, []⟩ : En) s1.m).length ≤ 8) := hid (by rw [putK_len _ H1.out.ok.rise, hlk]; exact H1.out.ok.few)
          have HMM : Hid (∀ (y : Ar), y = s1 → y.mac = s1.mac) := hid (fun y h => by rw [h])
          clear hlk hen hn4 HCA HMM
          refine wpAnyH_take (i := 0) (oi := { dst := some 42, op := Op.move (Operand.tmp 11), type := 4, pos := "arp.go:122", after := #[], guard := none }) (v := ?_) rfl (by kernel_rfl) (by kernel_rfl) (by kernel_rfl) (fun _ _ _ h => h) (Or.inl ⟨by rfl, ?_⟩) hHeld ?_
          rotate_left
          · (intro w hSw; obtain ⟨k4, k1⟩ := hSw; go_simp; first | with_reducible rfl | skip)
          try simp only [Act.put, List.setIfInBounds_toArray, List.set_cons_succ, List.set_cons_zero]
          refine wpAnyH_take (i := 1) (oi := { dst := some 43, op := Op.move (Operand.tmp 42), type := 4, pos := "arp.go:122", after := #[{ on := 0, ground := Ground.data }], guard := none }) (v := ?_) rfl (by kernel_rfl) (by kernel_rfl) (by kernel_rfl) (fun _ _ _ h => h) (Or.inl ⟨by rfl, ?_⟩) hHeld ?_
          rotate_left
          · (intro w hSw; obtain ⟨k4, k1⟩ := hSw; go_simp; first | with_reducible rfl | skip)
          try simp only [Act.put, List.setIfInBounds_toArray, List.set_cons_succ, List.set_cons_zero]
          refine wpAnyH_take (i := 2) (oi := { dst := some 44, op := Op.fieldAddr 40 (Operand.tmp 4) 4, type := 0, pos := "arp.go:122", after := #[{ on := 1, ground := Ground.guard }], guard := some (1, false) }) (v := undef) rfl (by kernel_rfl) (by kernel_rfl) (by kernel_rfl) (fun _ _ _ h => h) (Or.inr ⟨by rfl, rfl⟩) hHeld ?_
          try simp only [Act.put, List.setIfInBounds_toArray, List.set_cons_succ, List.set_cons_zero]
          refine wpAnyH_take (i := 3) (oi := { dst := some 45, op := Op.load 28 (Operand.tmp 44), type := 28, pos := "arp.go:122", after := #[{ on := 2, ground := Ground.data }, { on := 1, ground := Ground.guard }], guard := some (1, false) }) (v := undef) rfl (by kernel_rfl) (by kernel_rfl) (by kernel_rfl) (fun _ _ _ h => h) (Or.inr ⟨by rfl, rfl⟩) hHeld ?_
          try simp only [Act.put, List.setIfInBounds_toArray, List.set_cons_succ, List.set_cons_zero]
          refine wpAnyH_take (i := 4) (oi := { dst := some 46, op := Op.move (Operand.tmp 0), type := 23, pos := "arp.go:122", after := #[{ on := 1, ground := Ground.guard }], guard := some (1, false) }) (v := undef) rfl (by kernel_rfl) (by kernel_rfl) (by kernel_rfl) (fun _ _ _ h => h) (Or.inr ⟨by rfl, rfl⟩) hHeld ?_
          try simp only [Act.put, List.setIfInBounds_toArray, List.set_cons_succ, List.set_cons_zero]
          refine wpAnyH_take (i := 5) (oi := { dst := some 47, op := Op.nilCheck (Operand.tmp 46), type := 0, pos := "arp.go:122", after := #[{ on := 4, ground := Ground.data }, { on := 1, ground := Ground.guard }], guard := some (1, false) }) (v := undef) rfl (by kernel_rfl) (by kernel_rfl) (by kernel_rfl) (fun _ _ _ h => h) (Or.inr ⟨by rfl, rfl⟩) hHeld ?_
          try simp only [Act.put, List.setIfInBounds_toArray, List.set_cons_succ, List.set_cons_zero]
          refine wpAnyH_take (i := 6) (oi := { dst := some 48, op := Op.fieldAddr 72 (Operand.tmp 47) 1, type := 0, pos := "arp.go:122", after := #[{ on := 5, ground := Ground.data }, { on := 1, ground := Ground.guard }], guard := some (1, false) }) (v := undef) rfl (by kernel_rfl) (by kernel_rfl) (by kernel_rfl) (fun _ _ _ h => h) (Or.inr ⟨by rfl, rfl⟩) hHeld ?_
          try simp only [Act.put, List.setIfInBounds_toArray, List.set_cons_succ, List.set_cons_zero]
          refine wpAnyH_take (i := 7) (oi := { dst := some 49, op := Op.load 28 (Operand.tmp 48), type := 28, pos := "arp.go:122", after := #[{ on := 6, ground := Ground.data }, { on := 1, ground := Ground.guard }], guard := some (1, false) }) (v := undef) rfl (by kernel_rfl) (by kernel_rfl) (by kernel_rfl) (fun _ _ _ h => h) (Or.inr ⟨by rfl, rfl⟩) hHeld ?_
          try simp only [Act.put, List.setIfInBounds_toArray, List.set_cons_succ, List.set_cons_zero]
          refine wpAnyH_take (i := 8) (oi := { dst := some 50, op := Op.binOp BinOp.eql 28 (Operand.tmp 45) (Operand.tmp 49) 28, type := 4, pos := "arp.go:122", after := #[{ on := 3, ground := Ground.data }, { on := 7, ground := Ground.data }, { on := 1, ground := Ground.guard }], guard := some (1, false) }) (v := undef) rfl (by kernel_rfl) (by kernel_rfl) (by kernel_rfl) (fun _ _ _ h => h) (Or.inr ⟨by rfl, rfl⟩) hHeld ?_
          try simp only [Act.put, List.setIfInBounds_toArray, List.set_cons_succ, List.set_cons_zero]
          refine wpAnyH_take (i := 9) (oi := { dst := some 51, op := Op.move (Operand.tmp 50), type := 4, pos := "arp.go:122", after := #[{ on := 8, ground := Ground.data }, { on := 1, ground := Ground.chain }, { on := 1, ground := Ground.guard }], guard := some (1, false) }) (v := undef) rfl (by kernel_rfl) (by kernel_rfl) (by kernel_rfl) (fun _ _ _ h => h) (Or.inr ⟨by rfl, rfl⟩) hHeld ?_
          try simp only [Act.put, List.setIfInBounds_toArray, List.set_cons_succ, List.set_cons_zero]
          refine wpAnyH_take (i := 10) (oi := { dst := some 52, op := Op.move (Operand.tmp 0), type := 23, pos := "arp.go:122", after := #[{ on := 9, ground := Ground.guard }], guard := some (9, true) }) (v := undef) rfl (by kernel_rfl) (by kernel_rfl) (by kernel_rfl) (fun _ _ _ h => h) (Or.inr ⟨by rfl, rfl⟩) hHeld ?_
          try simp only [Act.put, List.setIfInBounds_toArray, List.set_cons_succ, List.set_cons_zero]
          refine wpAnyH_take (i := 11) (oi := { dst := some 53, op := Op.call { callee := Callee.value (Operand.func 29), args := #[Operand.tmp 52], argTypes := #[23] }, type := 4, pos := "arp.go:122", after := #[{ on := 10, ground := Ground.data }, { on := 9, ground := Ground.chain }, { on := 9, ground := Ground.guard }], guard := some (9, true) }) (v := undef) rfl (by kernel_rfl) (by kernel_rfl) (by kernel_rfl) (fun _ _ _ h => h) (Or.inr ⟨by rfl, rfl⟩) hHeld ?_
          try simp only [Act.put, List.setIfInBounds_toArray, List.set_cons_succ, List.set_cons_zero]
          refine wpAnyH_take (i := 12) (oi := { dst := some 54, op := Op.pick (Operand.tmp 51) (Operand.tmp 53) (Operand.const (Value.bool false)), type := 4, pos := "arp.go:122", after := #[{ on := 9, ground := Ground.data }, { on := 11, ground := Ground.data }, { on := 1, ground := Ground.guard }], guard := some (1, false) }) (v := undef) rfl (by kernel_rfl) (by kernel_rfl) (by kernel_rfl) (fun _ _ _ h => h) (Or.inr ⟨by rfl, rfl⟩) hHeld ?_
          try simp only [Act.put, List.setIfInBounds_toArray, List.set_cons_succ, List.set_cons_zero]
          refine wpAnyH_take (i := 13) (oi := { dst := some 55, op := Op.pick (Operand.tmp 43) (Operand.const (Value.bool true)) (Operand.tmp 54), type := 4, pos := "arp.go:122", after := #[{ on := 1, ground := Ground.data }, { on := 12, ground := Ground.data }], guard := none }) (v := ?_) rfl (by kernel_rfl) (by kernel_rfl) (by kernel_rfl) (fun _ _ _ h => h) (Or.inl ⟨by rfl, ?_⟩) hHeld ?_
          rotate_left
          · (intro w hSw; obtain ⟨k4, k1⟩ := hSw; go_simp; first | with_reducible rfl | skip)
          try simp only [Act.put, List.setIfInBounds_toArray, List.set_cons_succ, List.set_cons_zero]
          refine wpAnyH_done (by kernel_rfl) ?_ _
          clear hHeld j4 ji
          obtain ⟨sl, hsl⟩ : ∃ x, x = s1 := ⟨_, rfl⟩
          have HMS : Hid (sl.mac = s1.mac ∧ sl.ip = s1.ip ∧ sl.last = now) := hid (by rw [hsl]; exact HML.out)
          rw [show ({ s1 with m := putK fi ⟨true, fm, now, 0, []⟩ s1.m } : Ar) = { sl with m := putK fi ⟨true, fm, now, 0, []⟩ sl.m } by rw [hsl]] at HX
          rw [show CSt S w5 g b M s1 = CSt S w5 g b M sl by rw [hsl]] at HC5
          rw [show putK fi (⟨true, fm, now, 0, []⟩ : En) s1.m = putK fi ⟨true, fm, now, 0, []⟩ sl.m by rw [hsl]] at HPF
          clear hsl HML
          have e4 : w5.cell? ⟨en, 4, none⟩ = some (.slice A1 n1 c1) := cellOf HE5.out rfl
          go_wp2_with fail
          go_loopw [9, 59] (fun out i w' => ∃ (j : Nat), j ≤ n1 ∧ i = .int .i64 j ∧ CSt S w' g b M sl ∧ FrB w1.heap.size w' out ((L.take j).map (s1.bodyF fm)) ∧ Grown2 w w' g b ∧ QB w' w.heap.size op fm fi tm ti ∧ WaitS S w' A1 n1 c1 L ∧ w1.heap.size ≤ w'.heap.size) (fun _ i _ => n1 - (intOf i).toNat)
          case atStart => exact ⟨0, by omega, rfl, HC5.out, FrB.nil _ _, HG5.out, HQ5.out, HW5.out, HS5.out⟩
          case round =>
            obtain ⟨j, hj, rfl, hcs, hfr, hgw, hqb, hwt, hsz⟩ := hrel
            have hj0 : (0 : Int) ≤ (j : Int) := by omega
            by_cases hlt : j < n1
            · have hj1 : (j : Int) < (n1 : Int) := by omega
              have hjl : j < L.length := by have := HN1.out; omega
              obtain ⟨vs0, hvl, hvr, hvs⟩ := hwt.vs
              obtain ⟨b1, o1, hA1, hb1l, hc1⟩ := hvr.at_ j (by omega)
              obtain ⟨vj, hvj, A5, c5, rfl, hR5, hA5, hz5⟩ := hvs.at_ j hjl
              have hvj2 : vs0[j]'(by omega) = .slice A5 (L[j]'hjl).length c5 := by
                have h1 : vs0[j]? = some (vs0[j]'(by omega)) := by simp
                rw [h1] at hvj
                injection hvj
              rw [hvj2] at hc1
              obtain ⟨x5, hx5⟩ : ∃ x, x = L[j]'hjl := ⟨_, rfl⟩
              have HTK : Hid ((L.take (j + 1)).map (s1.bodyF fm) = (L.take j).map (s1.bodyF fm) ++ [s1.bodyF fm x5]) := hid (by rw [List.take_succ_eq_append_getElem hjl, List.map_append, hx5]; rfl)
              have hb5 := HBO.out x5 (by rw [hx5]; exact List.getElem_mem hjl)
              rw [← hx5] at hc1 hR5
              obtain ⟨n5, hn5⟩ : ∃ n, n = x5.length := ⟨_, rfl⟩
              rw [← hn5] at hc1
              subst hA1
              have i1 := hqb.cells.2.1
              have c0 := hcs.cells.1
              have HR5 := hid hR5; have HA5 := hid hA5; have HB5 := hid hb5; have HN5 := hid hn5
              have HCW := hid hcs; have HFW := hid hfr; have HGW := hid hgw; have HQW := hid hqb; have HWW := hid hwt; have HSW := hid hsz
              have HJL := hid hjl
              have hmac := hcs.ok.mac
              have hfmk := HFM.out
              clear hz5 hcs hfr hgw hqb hwt hsz hvl hvr hvs hvj hvj2 hR5 hA5 hb5 hn5 hx5 hjl hb1l
              go_wp2_with (go_at_call 30; refine hold ?_)
              refine hid ?_
              refine Calls.mono (cframe_calls g c5 n5 A5 sl.mac fm x5 HN5.out.symm wr c0 (by omega) (by omega) (by have := HB5.out; have := HN5.out; omega) HR5.out HA5.out) ?_
              rintro eq wq ⟨vq, rfl, hoq, hbq⟩
              obtain ⟨Aq, nq, cq, rfl⟩ := hoq.form
              have HOQ := hid hoq; have HBQ := hid hbq
              obtain ⟨vs, hfo, hfs⟩ := HFW.out
              have hfn := hfs.len
              obtain ⟨Ao, co, rfl, _⟩ := hfo.rd
              have HFO := hid (hfo.below hbq); have HFS := hid (hfs.below hbq); have HFN := hid hfn
              clear hoq hbq c0 i1 hc1 hfo hfs hfn hmac hfmk
              go_wp2_with (at_builtin; refine hold ?_)
              have hbe : Below wq.heap.size wq (wq.alloc (.cells #[.slice Aq nq cq] 31)) := (Below.refl _ _).alloc (Nat.le_refl _) _
              have hle : OwnV (wq.alloc (.cells #[.slice Aq nq cq] 31)) 0 31 (.slice (some ⟨wq.heap.size, 0, none⟩) 1 1) [.slice Aq nq cq] := OwnV.lit wq 31 0 (Nat.zero_le _) [_] #[_] 1 rfl rfl (by simp [maxLen])
              obtain ⟨Al, cl, hlv, hx1, hrl, hx2⟩ := hle.rd
              injection hlv with hl1 hl2 hl3
              subst hl1
              refine hid ?_
              have hvn : vs.length ≤ 4 := by have h := HFN.out; have := HJL.out; have := HN4.out; have := HN1.out; rw [List.length_map, List.length_take] at h; omega
              refine wpList_appV rfl _ _ 22 31 (.slice none 0 0) rfl 24 rfl elemF w1.heap.size (.slice Ao vs.length co) vs rfl (HFO.out.below hbe) (some ⟨wq.heap.size, 0, none⟩) 1 1 [.slice Aq nq cq] rfl rfl (by simp) hrl (by simp [Value.oneCell']) (by omega) (by unfold maxLen; omega) (by have := HBQ.out.size; have := HSW.out; simp; omega) ?_
              intro v5 wt ho5 hg5 hat5
              have hbx := below_then HBQ.out hbe
              have HFT := hid (FrB.more (HFO.out.below hbe) (HFS.out.below hbe) ((HOQ.out.below hbe).base w1.heap.size HSW.out) ho5 hg5)
              have hlo : ∀ x, (Value.slice Ao vs.length co).ownBlock = some x → w1.heap.size ≤ x := fun x hx => (HFO.out.lt x hx).1
              have HCT := hid ((HCW.out.below hbx).row hg5 hlo H1.out.lt H1.out.map.lt H1.out.sl)
              have HGT := hid ((HGW.out.trans (Grown2.of_below g b hbx)).rowV hg5 (fun x hx => by have := hlo x hx; have := HG1.out.size; omega))
              have HQT := hid ((HQW.out.below hbx).kept hg5 (fun e => by have := hlo _ e.symm; have := HQB.out; omega))
              have HWT := hid ((HWW.out.agree (Agree.of_below hbx HCW.out.sl)).agree (show Agree S _ _ from ⟨hg5.size, fun q hq => hg5.block q (by have := HCW.out.sl q hq; have := hbx.size; omega) (fun e => by have := hlo q e.symm; have := H1.out.sl q hq; omega)⟩))
              have HST := hid (Nat.le_trans (Nat.le_trans HSW.out hbx.size) hg5.size)
              rw [show etherB fm sl.mac 2048 x5 = s1.bodyF fm x5 by unfold Ar.bodyF; rw [HMS.out.1]] at HFT
              clear hbe hle hl2 hl3 hx1 hx2 hrl ho5 hg5 hat5 hbx hlo hvn HFO HFS HOQ HBQ HCW HFW HGW HQW HWW HSW
              have hn4 := HN4.out
              go_wp2
              go_roundw
              case rel => exact ⟨j + 1, by omega, by go_num, HCT.out, by rw [HTK.out]; exact HFT.out, HGT.out, HQT.out, HWT.out, HST.out⟩
              case measure => simp [intOf]; omega
            · obtain rfl : j = n1 := by omega
              have hj1 : ¬ (j : Int) < (j : Int) := by omega
              have htk : L.take j = L := List.take_of_length_le (by have := HN1.out; omega)
              rw [htk] at hfr
              have HCW := hid hcs; have HFW := hid hfr; have HGW := hid hgw; have HQW := hid hqb; have HSW := hid hsz
              clear hcs hfr hgw hqb hwt hsz htk HC5 HG5 HQ5 HW5 HE5 HS5 e4
              go_wp2_with fail
              have g3 : wr.drew.cell? ⟨g, 3, none⟩ = some (.map (some b)) := HCW.out.cells.2.2.2.1
              have i1 : wr.drew.cell? ⟨w.heap.size, 1, none⟩ = some (.int .u64 fm) := HQW.out.cells.2.1
              have i2 : wr.drew.cell? ⟨w.heap.size, 2, none⟩ = some (.int .u32 fi) := HQW.out.cells.2.2.1
              have hbd : Below wr.heap.size wr wr.drew := (Below.refl _ _).drew
              have HC8 := hid (HCW.out.below hbd)
              have HF8 := hid (HFW.out.below hbd)
              have HG8 := hid (HGW.out.trans (Grown2.of_below g b hbd))
              have HQ8 := hid (HQW.out.below hbd)
              have HS8 := hid (Nat.le_trans HSW.out hbd.size)
              clear hbd HCW HFW HGW HQW HSW
              refine wp_region_held_drew (S := fun W => W.cell? ⟨g, 3, none⟩ = some (.map (some b)) ∧ W.cell? ⟨w.heap.size, 1, none⟩ = some (.int .u64 fm) ∧ W.cell? ⟨w.heap.size, 2, none⟩ = some (.int .u32 fi)) (by kernel_rfl) ⟨g3, i1, i2⟩ (fun hHeld => ?_)
              generalize wr.drew = w8 at *
              refine wpAnyH_take (i := 0) (oi := { dst := some 72, op := Op.move (Operand.tmp 0), type := 23, pos := "arp.go:126", after := #[], guard := none }) (v := ?_) rfl (by kernel_rfl) (by kernel_rfl) (by kernel_rfl) (fun _ _ _ h => h) (Or.inl ⟨by rfl, ?_⟩) hHeld ?_
              rotate_left
              · (intro W hSw; obtain ⟨k3, k1, k2⟩ := hSw; go_simp; first | with_reducible rfl | skip)
              try simp only [Act.put, List.setIfInBounds_toArray, List.set_cons_succ, List.set_cons_zero]
              refine wpAnyH_take (i := 1) (oi := { dst := some 73, op := Op.nilCheck (Operand.tmp 72), type := 0, pos := "arp.go:126", after := #[{ on := 0, ground := Ground.data }], guard := none }) (v := ?_) rfl (by kernel_rfl) (by kernel_rfl) (by kernel_rfl) (fun _ _ _ h => h) (Or.inl ⟨by rfl, ?_⟩) hHeld ?_
              rotate_left
              · (intro W hSw; obtain ⟨k3, k1, k2⟩ := hSw; go_simp; first | with_reducible rfl | skip)
              try simp only [Act.put, List.setIfInBounds_toArray, List.set_cons_succ, List.set_cons_zero]
              refine wpAnyH_take (i := 2) (oi := { dst := some 74, op := Op.fieldAddr 72 (Operand.tmp 73) 3, type := 0, pos := "arp.go:126", after := #[{ on := 1, ground := Ground.data }], guard := none }) (v := ?_) rfl (by kernel_rfl) (by kernel_rfl) (by kernel_rfl) (fun _ _ _ h => h) (Or.inl ⟨by rfl, ?_⟩) hHeld ?_
              rotate_left
              · (intro W hSw; obtain ⟨k3, k1, k2⟩ := hSw; go_simp; first | with_reducible rfl | skip)
              try simp only [Act.put, List.setIfInBounds_toArray, List.set_cons_succ, List.set_cons_zero]
              refine wpAnyH_take (i := 3) (oi := { dst := some 75, op := Op.load 70 (Operand.tmp 74), type := 70, pos := "arp.go:126", after := #[{ on := 2, ground := Ground.data }], guard := none }) (v := ?_) rfl (by kernel_rfl) (by kernel_rfl) (by kernel_rfl) (fun _ _ _ h => h) (Or.inl ⟨by rfl, ?_⟩) hHeld ?_
              rotate_left
              · (intro W hSw; obtain ⟨k3, k1, k2⟩ := hSw; go_simp; first | with_reducible rfl | skip)
              try simp only [Act.put, List.setIfInBounds_toArray, List.set_cons_succ, List.set_cons_zero]
              refine wpAnyH_take (i := 4) (oi := { dst := some 76, op := Op.fieldAddr 40 (Operand.tmp 4) 2, type := 0, pos := "arp.go:126", after := #[], guard := none }) (v := ?_) rfl (by kernel_rfl) (by kernel_rfl) (by kernel_rfl) (fun _ _ _ h => h) (Or.inl ⟨by rfl, ?_⟩) hHeld ?_
              rotate_left
              · (intro W hSw; obtain ⟨k3, k1, k2⟩ := hSw; go_simp; first | with_reducible rfl | skip)
              try simp only [Act.put, List.setIfInBounds_toArray, List.set_cons_succ, List.set_cons_zero]
              refine wpAnyH_take (i := 5) (oi := { dst := some 77, op := Op.load 28 (Operand.tmp 76), type := 28, pos := "arp.go:126", after := #[{ on := 4, ground := Ground.data }], guard := none }) (v := ?_) rfl (by kernel_rfl) (by kernel_rfl) (by kernel_rfl) (fun _ _ _ h => h) (Or.inl ⟨by rfl, ?_⟩) hHeld ?_
              rotate_left
              · (intro W hSw; obtain ⟨k3, k1, k2⟩ := hSw; go_simp; first | with_reducible rfl | skip)
              try simp only [Act.put, List.setIfInBounds_toArray, List.set_cons_succ, List.set_cons_zero]
              refine wpAnyH_take (i := 6) (oi := { dst := some 78, op := Op.fieldAddr 40 (Operand.tmp 4) 1, type := 0, pos := "arp.go:126", after := #[], guard := none }) (v := ?_) rfl (by kernel_rfl) (by kernel_rfl) (by kernel_rfl) (fun _ _ _ h => h) (Or.inl ⟨by rfl, ?_⟩) hHeld ?_
              rotate_left
              · (intro W hSw; obtain ⟨k3, k1, k2⟩ := hSw; go_simp; first | with_reducible rfl | skip)
              try simp only [Act.put, List.setIfInBounds_toArray, List.set_cons_succ, List.set_cons_zero]
              refine wpAnyH_take (i := 7) (oi := { dst := some 79, op := Op.load 27 (Operand.tmp 78), type := 27, pos := "arp.go:126", after := #[{ on := 6, ground := Ground.data }], guard := none }) (v := ?_) rfl (by kernel_rfl) (by kernel_rfl) (by kernel_rfl) (fun _ _ _ h => h) (Or.inl ⟨by rfl, ?_⟩) hHeld ?_
              rotate_left
              · (intro W hSw; obtain ⟨k3, k1, k2⟩ := hSw; go_simp; first | with_reducible rfl | skip)
              try simp only [Act.put, List.setIfInBounds_toArray, List.set_cons_succ, List.set_cons_zero]
              refine wpAnyH_take (i := 8) (oi := { dst := some 80, op := Op.move (Operand.tmp 2), type := 3, pos := "arp.go:126", after := #[], guard := none }) (v := ?_) rfl (by kernel_rfl) (by kernel_rfl) (by kernel_rfl) (fun _ _ _ h => h) (Or.inl ⟨by rfl, ?_⟩) hHeld ?_
              rotate_left
              · (intro W hSw; obtain ⟨k3, k1, k2⟩ := hSw; go_simp; first | with_reducible rfl | skip)
              try simp only [Act.put, List.setIfInBounds_toArray, List.set_cons_succ, List.set_cons_zero]
              refine wpAnyH_take (i := 9) (oi := { dst := some 81, op := Op.build 78 #[(0, Operand.const (Value.bool true)), (1, Operand.tmp 79), (2, Operand.tmp 80)], type := 78, pos := "arp.go:126", after := #[{ on := 7, ground := Ground.data }, { on := 8, ground := Ground.data }], guard := none }) (v := .agg (enC ⟨true, fm, now, 0, []⟩ none 0 0)) rfl (by kernel_rfl) (by kernel_rfl) (by kernel_rfl) (fun _ _ _ h => h) (Or.inl ⟨by rfl, ?_⟩) hHeld ?_
              · (intro W hSw; kernel_rfl)
              try simp only [Act.put, List.setIfInBounds_toArray, List.set_cons_succ, List.set_cons_zero]
              refine wpAnyH_ready (rs := [10]) (by kernel_rfl) (by simp) ?_
              refine AllReadyH.cons (o := _) rfl (fun K hK => ?_) AllReadyH.nil
              refine wp_mput _ _ _ 70 28 78 rfl Try.underlying28 Try.underlying70 b M HC8.out.map (by have := HC8.out.ent.len; have := HC8.out.ok.few; unfold maxLen; omega) rfl fi rfl HFI.out _ rfl (fun w9 hM9 hg9 => ?_)
              have hok : ({ sl with m := putK fi ⟨true, fm, now, 0, []⟩ sl.m } : Ar).Ok := by
                have h1 := HC8.out.ok.last
                have h2 := HMS.out.2.2
                refine HC8.out.ok.put HFI.out ⟨HFM.out.1, HFM.out.2, (by show (0 : Int) ≤ now; omega), (by show now ≤ sl.last; omega), by simp, by simp, by simp, by simp, by simp⟩ HPF.out
              have hc9 := HC8.out.put (e := ⟨true, fm, now, 0, []⟩) hM9 hg9 ⟨none, 0, 0, rfl, WaitS.none _ _⟩ hok
              have hq9 := HQ8.out.kept hg9 (fun e => by injection e with e; have := HBW.out; omega)
              refine hK.out _ _ ⟨hc9.cells.2.2.2.1, hq9.cells.2.1, hq9.cells.2.2.1⟩ (fun hHeld => ?_)
              clear hK K
              try simp only [Act.put, List.setIfInBounds_toArray, List.set_cons_succ, List.set_cons_zero]
              refine wpAnyH_done (by kernel_rfl) ?_ _
              obtain ⟨sk, hsk⟩ : ∃ x, x = ({ sl with m := putK fi ⟨true, fm, now, 0, []⟩ sl.m } : Ar) := ⟨_, rfl⟩
              have HMK : Hid (sk.mac = s1.mac ∧ sk.ip = s1.ip) := hid (by rw [hsk]; exact ⟨HMS.out.1, HMS.out.2.1⟩)
              rw [← hsk] at HX hc9
              obtain ⟨F, hF⟩ : ∃ F : List (List Int), F = L.map (s1.bodyF fm) := ⟨_, rfl⟩
              have HFL : Hid (F.length ≤ 8) := hid (by rw [hF, List.length_map]; have := HN1.out; have := HN4.out; omega)
              rw [← hF] at HX HF8
              have HCK := hid hc9
              have HFK := hid (HF8.out.kept hg9 H1.out.map.lt)
              have HGK := hid (HG8.out.trans (Grown2.of_right g hg9))
              have HQK := hid hq9
              have HSD := hid (Nat.le_trans HS8.out hg9.size)
              clear hF hsk hHeld hM9 hg9 hok hc9 hq9 g3 i1 i2 HC8 HF8 HG8 HQ8 HS8 HPF HBO
              go_wp2_with fail
              have j0 : w9.drew.cell? ⟨w.heap.size, 0, none⟩ = some (.int .i64 op) := HQK.out.cells.1
              have j4 : w9.drew.cell? ⟨w.heap.size, 4, none⟩ = some (.int .u32 ti) := HQK.out.cells.2.2.2
              have ji : w9.drew.cell? ⟨g, 1, none⟩ = some (.int .u32 sk.ip) := HCK.out.cells.2.1
              rw [HMK.out.2] at ji
              have HCD := hid (HCK.out.below (w' := w9.drew) (Below.refl _ _).drew)
              have HFD := hid (HFK.out.below (w' := w9.drew) (Below.refl _ _).drew)
              have HGD := hid (HGK.out.trans (Grown2.of_below (w' := w9.drew) g b (Below.refl _ _).drew))
              have HQD := hid (HQK.out.below (w' := w9.drew) (Below.refl _ _).drew)
              have HSD := hid (show w1.heap.size ≤ w9.drew.heap.size from HSD.out)
              clear HCK HFK HGK HQK
              refine wp_region_held_drew (S := fun W => W = w9.drew) (by kernel_rfl) rfl (fun hHeld => ?_)
              generalize w9.drew = wd at *
              by_cases hop1 : op = 1
              · have ho1 : (op == 1) = true := by rw [hop1]; rfl
                by_cases htip : ti = s1.ip
                · have ht1 : (ti == s1.ip) = true := by rw [htip]; simp
                  rw [show s1.answer ⟨op, fm, fi, tm, ti⟩ = [s1.arpF 2 fm fm fi] from if_pos ⟨hop1, htip⟩] at HX
                  refine wpAnyH_take (i := 0) (oi := { dst := some 82, op := Op.fieldAddr 40 (Operand.tmp 4) 0, type := 0, pos := "arp.go:128", after := #[], guard := none }) (v := ?_) rfl (by kernel_rfl) (by kernel_rfl) (by kernel_rfl) (fun _ _ _ h => h) (Or.inl ⟨by rfl, ?_⟩) hHeld ?_
                  rotate_left
                  · (intro w hSw; subst hSw; go_simp; first | with_reducible rfl | skip)
                  try simp only [Act.put, List.setIfInBounds_toArray, List.set_cons_succ, List.set_cons_zero]
                  refine wpAnyH_take (i := 1) (oi := { dst := some 83, op := Op.load 3 (Operand.tmp 82), type := 3, pos := "arp.go:128", after := #[{ on := 0, ground := Ground.data }], guard := none }) (v := ?_) rfl (by kernel_rfl) (by kernel_rfl) (by kernel_rfl) (fun _ _ _ h => h) (Or.inl ⟨by rfl, ?_⟩) hHeld ?_
                  rotate_left
                  · (intro w hSw; subst hSw; go_simp; first | with_reducible rfl | skip)
                  try simp only [Act.put, List.setIfInBounds_toArray, List.set_cons_succ, List.set_cons_zero]
                  refine wpAnyH_take (i := 2) (oi := { dst := some 84, op := Op.binOp BinOp.eql 3 (Operand.tmp 83) (Operand.const (Value.int IntKind.i64 1)) 3, type := 4, pos := "arp.go:128", after := #[{ on := 1, ground := Ground.data }], guard := none }) (v := ?_) rfl (by kernel_rfl) (by kernel_rfl) (by kernel_rfl) (fun _ _ _ h => h) (Or.inl ⟨by rfl, ?_⟩) hHeld ?_
                  rotate_left
                  · (intro w hSw; subst hSw; go_simp; first | with_reducible rfl | skip)
                  try simp only [Act.put, List.setIfInBounds_toArray, List.set_cons_succ, List.set_cons_zero]
                  refine wpAnyH_take (i := 3) (oi := { dst := some 85, op := Op.move (Operand.tmp 84), type := 4, pos := "arp.go:128", after := #[{ on := 2, ground := Ground.data }], guard := none }) (v := ?_) rfl (by kernel_rfl) (by kernel_rfl) (by kernel_rfl) (fun _ _ _ h => h) (Or.inl ⟨by rfl, ?_⟩) hHeld ?_
                  rotate_left
                  · (intro w hSw; subst hSw; go_simp; first | with_reducible rfl | skip)
                  try simp only [Act.put, List.setIfInBounds_toArray, List.set_cons_succ, List.set_cons_zero]
                  refine wpAnyH_take (i := 4) (oi := { dst := some 86, op := Op.fieldAddr 40 (Operand.tmp 4) 4, type := 0, pos := "arp.go:128", after := #[{ on := 3, ground := Ground.guard }], guard := some (3, true) }) (v := ?_) rfl (by kernel_rfl) (by kernel_rfl) (by kernel_rfl) (fun _ _ _ h => h) (Or.inl ⟨by rfl, ?_⟩) hHeld ?_
                  rotate_left
                  · (intro w hSw; subst hSw; go_simp; first | with_reducible rfl | skip)
                  try simp only [Act.put, List.setIfInBounds_toArray, List.set_cons_succ, List.set_cons_zero]
                  refine wpAnyH_take (i := 5) (oi := { dst := some 87, op := Op.load 28 (Operand.tmp 86), type := 28, pos := "arp.go:128", after := #[{ on := 4, ground := Ground.data }, { on := 3, ground := Ground.guard }], guard := some (3, true) }) (v := ?_) rfl (by kernel_rfl) (by kernel_rfl) (by kernel_rfl) (fun _ _ _ h => h) (Or.inl ⟨by rfl, ?_⟩) hHeld ?_
                  rotate_left
                  · (intro w hSw; subst hSw; go_simp; first | with_reducible rfl | skip)
                  try simp only [Act.put, List.setIfInBounds_toArray, List.set_cons_succ, List.set_cons_zero]
                  refine wpAnyH_take (i := 6) (oi := { dst := some 88, op := Op.move (Operand.tmp 0), type := 23, pos := "arp.go:128", after := #[{ on := 3, ground := Ground.guard }], guard := some (3, true) }) (v := ?_) rfl (by kernel_rfl) (by kernel_rfl) (by kernel_rfl) (fun _ _ _ h => h) (Or.inl ⟨by rfl, ?_⟩) hHeld ?_
                  rotate_left
                  · (intro w hSw; subst hSw; go_simp; first | with_reducible rfl | skip)
                  try simp only [Act.put, List.setIfInBounds_toArray, List.set_cons_succ, List.set_cons_zero]
                  refine wpAnyH_take (i := 7) (oi := { dst := some 89, op := Op.nilCheck (Operand.tmp 88), type := 0, pos := "arp.go:128", after := #[{ on := 6, ground := Ground.data }, { on := 3, ground := Ground.guard }], guard := some (3, true) }) (v := ?_) rfl (by kernel_rfl) (by kernel_rfl) (by kernel_rfl) (fun _ _ _ h => h) (Or.inl ⟨by rfl, ?_⟩) hHeld ?_
                  rotate_left
                  · (intro w hSw; subst hSw; go_simp; first | with_reducible rfl | skip)
                  try simp only [Act.put, List.setIfInBounds_toArray, List.set_cons_succ, List.set_cons_zero]
                  refine wpAnyH_take (i := 8) (oi := { dst := some 90, op := Op.fieldAddr 72 (Operand.tmp 89) 1, type := 0, pos := "arp.go:128", after := #[{ on := 7, ground := Ground.data }, { on := 3, ground := Ground.guard }], guard := some (3, true) }) (v := ?_) rfl (by kernel_rfl) (by kernel_rfl) (by kernel_rfl) (fun _ _ _ h => h) (Or.inl ⟨by rfl, ?_⟩) hHeld ?_
                  rotate_left
                  · (intro w hSw; subst hSw; go_simp; first | with_reducible rfl | skip)
                  try simp only [Act.put, List.setIfInBounds_toArray, List.set_cons_succ, List.set_cons_zero]
                  refine wpAnyH_take (i := 9) (oi := { dst := some 91, op := Op.load 28 (Operand.tmp 90), type := 28, pos := "arp.go:128", after := #[{ on := 8, ground := Ground.data }, { on := 3, ground := Ground.guard }], guard := some (3, true) }) (v := ?_) rfl (by kernel_rfl) (by kernel_rfl) (by kernel_rfl) (fun _ _ _ h => h) (Or.inl ⟨by rfl, ?_⟩) hHeld ?_
                  rotate_left
                  · (intro w hSw; subst hSw; go_simp; first | with_reducible rfl | skip)
                  try simp only [Act.put, List.setIfInBounds_toArray, List.set_cons_succ, List.set_cons_zero]
                  refine wpAnyH_take (i := 10) (oi := { dst := some 92, op := Op.binOp BinOp.eql 28 (Operand.tmp 87) (Operand.tmp 91) 28, type := 4, pos := "arp.go:128", after := #[{ on := 5, ground := Ground.data }, { on := 9, ground := Ground.data }, { on := 3, ground := Ground.guard }], guard := some (3, true) }) (v := ?_) rfl (by kernel_rfl) (by kernel_rfl) (by kernel_rfl) (fun _ _ _ h => h) (Or.inl ⟨by rfl, ?_⟩) hHeld ?_
                  rotate_left
                  · (intro w hSw; subst hSw; go_simp; first | with_reducible rfl | skip)
                  try simp only [Act.put, List.setIfInBounds_toArray, List.set_cons_succ, List.set_cons_zero]
                  refine wpAnyH_take (i := 11) (oi := { dst := some 93, op := Op.pick (Operand.tmp 85) (Operand.tmp 92) (Operand.const (Value.bool false)), type := 4, pos := "arp.go:128", after := #[{ on := 3, ground := Ground.data }, { on := 10, ground := Ground.data }], guard := none }) (v := ?_) rfl (by kernel_rfl) (by kernel_rfl) (by kernel_rfl) (fun _ _ _ h => h) (Or.inl ⟨by rfl, ?_⟩) hHeld ?_
                  rotate_left
                  · (intro w hSw; subst hSw; go_simp; first | with_reducible rfl | skip)
                  try simp only [Act.put, List.setIfInBounds_toArray, List.set_cons_succ, List.set_cons_zero]
                  refine wpAnyH_done (by kernel_rfl) ?_ _
                  clear hHeld j0 j4 ji
                  have i1 := HQD.out.cells.2.1
                  have i2 := HQD.out.cells.2.2.1
                  have c0 := HCD.out.cells.1
                  have c1' := HCD.out.cells.2.1
                  have hmk := HCD.out.ok.mac
                  have hfmk := HFM.out
                  go_wp2_with (go_at_call 31; refine hold ?_)
                  refine hid ?_
                  refine Calls.mono (carp_calls g sk.mac sk.ip 2 fm fm fi wd HCD.out.lt c0 c1' (by omega) HCD.out.ok.ip (.inr rfl) (by omega) (by omega) HFI.out) ?_
                  rintro eq wq ⟨vq, rfl, hoq, hbq⟩
                  obtain ⟨Aq, nq, cq, rfl⟩ := hoq.form
                  have HOQ := hid hoq; have HBQ := hid hbq
                  obtain ⟨vs, hfo, hfs⟩ := HFD.out
                  have hfn := hfs.len
                  obtain ⟨Ao, co, rfl, _⟩ := hfo.rd
                  have HFO := hid (hfo.below hbq); have HFS := hid (hfs.below hbq); have HFN := hid hfn
                  have HCQ := hid (HCD.out.below hbq)
                  have HGQ := hid (HGD.out.trans (Grown2.of_below g b hbq))
                  have hsd : w1.heap.size ≤ wd.heap.size := HSD.out
                  clear hoq hbq c0 c1' hfo hfs hfn i1 i2 hmk hfmk
                  go_wp2_with (at_builtin; refine hold ?_)
                  have hbe : Below wq.heap.size wq (wq.alloc (.cells #[.slice Aq nq cq] 31)) := (Below.refl _ _).alloc (Nat.le_refl _) _
                  have hle : OwnV (wq.alloc (.cells #[.slice Aq nq cq] 31)) 0 31 (.slice (some ⟨wq.heap.size, 0, none⟩) 1 1) [.slice Aq nq cq] := OwnV.lit wq 31 0 (Nat.zero_le _) [_] #[_] 1 rfl rfl (by simp [maxLen])
                  obtain ⟨Al, cl, hlv, hx1, hrl, hx2⟩ := hle.rd
                  injection hlv with hl1 hl2 hl3
                  subst hl1
                  refine hid ?_
                  refine wpList_appV rfl _ _ 22 31 (.slice none 0 0) rfl 24 rfl elemF w1.heap.size (.slice Ao vs.length co) vs rfl (HFO.out.below hbe) (some ⟨wq.heap.size, 0, none⟩) 1 1 [.slice Aq nq cq] rfl rfl (by simp) hrl (by simp [Value.oneCell']) (by have := HFN.out; have := HFL.out; simp; omega) (by have := HFN.out; have := HFL.out; simp [maxLen]; omega) (by have := HBQ.out.size; simp; omega) ?_
                  intro v5 wt ho5 hg5 hat5
                  have hbx := below_then HBQ.out hbe
                  have HFT := hid (FrB.more (HFO.out.below hbe) (HFS.out.below hbe) ((HOQ.out.below hbe).base w1.heap.size hsd) ho5 hg5)
                  have hlo : ∀ x, (Value.slice Ao vs.length co).ownBlock = some x → w1.heap.size ≤ x := fun x hx => (HFO.out.lt x hx).1
                  have HCT := hid ((HCQ.out.below hbe).row hg5 hlo H1.out.lt H1.out.map.lt H1.out.sl)
                  have HGT := hid ((HGQ.out.trans (Grown2.of_below g b hbe)).rowV hg5 (fun x hx => by have := hlo x hx; have := HG1.out.size; omega))
                  rw [show etherB fm sk.mac 2054 (arpB 2 sk.mac sk.ip fm fi) = s1.arpF 2 fm fm fi by unfold Ar.arpF; rw [HMK.out.1, HMK.out.2]] at HFT
                  clear hbe hle hl2 hl3 hx1 hx2 hrl ho5 hg5 hat5 hbx hlo
                  go_wp2
                  go_ret2
                  rw [HS.out, HX.out]
                  exact ⟨_, S, _, rfl, HCT.out, fun q hq => .inl hq, HFT.out.frS (fun q hq => ⟨by have := HG1.out.size; omega, fun h => by have := H1.out.sl q h; omega⟩), HGT.out⟩
                · have ht1 : (ti == s1.ip) = false := by simpa using htip
                  rw [show s1.answer ⟨op, fm, fi, tm, ti⟩ = [] from if_neg (fun h => htip h.2)] at HX
                  rw [List.append_nil] at HX
                  refine wpAnyH_take (i := 0) (oi := { dst := some 82, op := Op.fieldAddr 40 (Operand.tmp 4) 0, type := 0, pos := "arp.go:128", after := #[], guard := none }) (v := ?_) rfl (by kernel_rfl) (by kernel_rfl) (by kernel_rfl) (fun _ _ _ h => h) (Or.inl ⟨by rfl, ?_⟩) hHeld ?_
                  rotate_left
                  · (intro w hSw; subst hSw; go_simp; first | with_reducible rfl | skip)
                  try simp only [Act.put, List.setIfInBounds_toArray, List.set_cons_succ, List.set_cons_zero]
                  refine wpAnyH_take (i := 1) (oi := { dst := some 83, op := Op.load 3 (Operand.tmp 82), type := 3, pos := "arp.go:128", after := #[{ on := 0, ground := Ground.data }], guard := none }) (v := ?_) rfl (by kernel_rfl) (by kernel_rfl) (by kernel_rfl) (fun _ _ _ h => h) (Or.inl ⟨by rfl, ?_⟩) hHeld ?_
                  rotate_left
                  · (intro w hSw; subst hSw; go_simp; first | with_reducible rfl | skip)
                  try simp only [Act.put, List.setIfInBounds_toArray, List.set_cons_succ, List.set_cons_zero]
                  refine wpAnyH_take (i := 2) (oi := { dst := some 84, op := Op.binOp BinOp.eql 3 (Operand.tmp 83) (Operand.const (Value.int IntKind.i64 1)) 3, type := 4, pos := "arp.go:128", after := #[{ on := 1, ground := Ground.data }], guard := none }) (v := ?_) rfl (by kernel_rfl) (by kernel_rfl) (by kernel_rfl) (fun _ _ _ h => h) (Or.inl ⟨by rfl, ?_⟩) hHeld ?_
                  rotate_left
                  · (intro w hSw; subst hSw; go_simp; first | with_reducible rfl | skip)
                  try simp only [Act.put, List.setIfInBounds_toArray, List.set_cons_succ, List.set_cons_zero]
                  refine wpAnyH_take (i := 3) (oi := { dst := some 85, op := Op.move (Operand.tmp 84), type := 4, pos := "arp.go:128", after := #[{ on := 2, ground := Ground.data }], guard := none }) (v := ?_) rfl (by kernel_rfl) (by kernel_rfl) (by kernel_rfl) (fun _ _ _ h => h) (Or.inl ⟨by rfl, ?_⟩) hHeld ?_
                  rotate_left
                  · (intro w hSw; subst hSw; go_simp; first | with_reducible rfl | skip)
                  try simp only [Act.put, List.setIfInBounds_toArray, List.set_cons_succ, List.set_cons_zero]
                  refine wpAnyH_take (i := 4) (oi := { dst := some 86, op := Op.fieldAddr 40 (Operand.tmp 4) 4, type := 0, pos := "arp.go:128", after := #[{ on := 3, ground := Ground.guard }], guard := some (3, true) }) (v := ?_) rfl (by kernel_rfl) (by kernel_rfl) (by kernel_rfl) (fun _ _ _ h => h) (Or.inl ⟨by rfl, ?_⟩) hHeld ?_
                  rotate_left
                  · (intro w hSw; subst hSw; go_simp; first | with_reducible rfl | skip)
                  try simp only [Act.put, List.setIfInBounds_toArray, List.set_cons_succ, List.set_cons_zero]
                  refine wpAnyH_take (i := 5) (oi := { dst := some 87, op := Op.load 28 (Operand.tmp 86), type := 28, pos := "arp.go:128", after := #[{ on := 4, ground := Ground.data }, { on := 3, ground := Ground.guard }], guard := some (3, true) }) (v := ?_) rfl (by kernel_rfl) (by kernel_rfl) (by kernel_rfl) (fun _ _ _ h => h) (Or.inl ⟨by rfl, ?_⟩) hHeld ?_
                  rotate_left
                  · (intro w hSw; subst hSw; go_simp; first | with_reducible rfl | skip)
                  try simp only [Act.put, List.setIfInBounds_toArray, List.set_cons_succ, List.set_cons_zero]
                  refine wpAnyH_take (i := 6) (oi := { dst := some 88, op := Op.move (Operand.tmp 0), type := 23, pos := "arp.go:128", after := #[{ on := 3, ground := Ground.guard }], guard := some (3, true) }) (v := ?_) rfl (by kernel_rfl) (by kernel_rfl) (by kernel_rfl) (fun _ _ _ h => h) (Or.inl ⟨by rfl, ?_⟩) hHeld ?_
                  rotate_left
                  · (intro w hSw; subst hSw; go_simp; first | with_reducible rfl | skip)
                  try simp only [Act.put, List.setIfInBounds_toArray, List.set_cons_succ, List.set_cons_zero]
                  refine wpAnyH_take (i := 7) (oi := { dst := some 89, op := Op.nilCheck (Operand.tmp 88), type := 0, pos := "arp.go:128", after := #[{ on := 6, ground := Ground.data }, { on := 3, ground := Ground.guard }], guard := some (3, true) }) (v := ?_) rfl (by kernel_rfl) (by kernel_rfl) (by kernel_rfl) (fun _ _ _ h => h) (Or.inl ⟨by rfl, ?_⟩) hHeld ?_
                  rotate_left
                  · (intro w hSw; subst hSw; go_simp; first | with_reducible rfl | skip)
                  try simp only [Act.put, List.setIfInBounds_toArray, List.set_cons_succ, List.set_cons_zero]
                  refine wpAnyH_take (i := 8) (oi := { dst := some 90, op := Op.fieldAddr 72 (Operand.tmp 89) 1, type := 0, pos := "arp.go:128", after := #[{ on := 7, ground := Ground.data }, { on := 3, ground := Ground.guard }], guard := some (3, true) }) (v := ?_) rfl (by kernel_rfl) (by kernel_rfl) (by kernel_rfl) (fun _ _ _ h => h) (Or.inl ⟨by rfl, ?_⟩) hHeld ?_
                  rotate_left
                  · (intro w hSw; subst hSw; go_simp; first | with_reducible rfl | skip)
                  try simp only [Act.put, List.setIfInBounds_toArray, List.set_cons_succ, List.set_cons_zero]
                  refine wpAnyH_take (i := 9) (oi := { dst := some 91, op := Op.load 28 (Operand.tmp 90), type := 28, pos := "arp.go:128", after := #[{ on := 8, ground := Ground.data }, { on := 3, ground := Ground.guard }], guard := some (3, true) }) (v := ?_) rfl (by kernel_rfl) (by kernel_rfl) (by kernel_rfl) (fun _ _ _ h => h) (Or.inl ⟨by rfl, ?_⟩) hHeld ?_
                  rotate_left
                  · (intro w hSw; subst hSw; go_simp; first | with_reducible rfl | skip)
                  try simp only [Act.put, List.setIfInBounds_toArray, List.set_cons_succ, List.set_cons_zero]
                  refine wpAnyH_take (i := 10) (oi := { dst := some 92, op := Op.binOp BinOp.eql 28 (Operand.tmp 87) (Operand.tmp 91) 28, type := 4, pos := "arp.go:128", after := #[{ on := 5, ground := Ground.data }, { on := 9, ground := Ground.data }, { on := 3, ground := Ground.guard }], guard := some (3, true) }) (v := ?_) rfl (by kernel_rfl) (by kernel_rfl) (by kernel_rfl) (fun _ _ _ h => h) (Or.inl ⟨by rfl, ?_⟩) hHeld ?_
                  rotate_left
                  · (intro w hSw; subst hSw; go_simp; first | with_reducible rfl | skip)
                  try simp only [Act.put, List.setIfInBounds_toArray, List.set_cons_succ, List.set_cons_zero]
                  refine wpAnyH_take (i := 11) (oi := { dst := some 93, op := Op.pick (Operand.tmp 85) (Operand.tmp 92) (Operand.const (Value.bool false)), type := 4, pos := "arp.go:128", after := #[{ on := 3, ground := Ground.data }, { on := 10, ground := Ground.data }], guard := none }) (v := ?_) rfl (by kernel_rfl) (by kernel_rfl) (by kernel_rfl) (fun _ _ _ h => h) (Or.inl ⟨by rfl, ?_⟩) hHeld ?_
                  rotate_left
                  · (intro w hSw; subst hSw; go_simp; first | with_reducible rfl | skip)
                  try simp only [Act.put, List.setIfInBounds_toArray, List.set_cons_succ, List.set_cons_zero]
                  refine wpAnyH_done (by kernel_rfl) ?_ _
                  clear hHeld j0 j4 ji
                  go_wp2
                  go_ret2
                  rw [HS.out, HX.out]
                  exact ⟨_, S, _, rfl, HCD.out, fun q hq => .inl hq, HFD.out.frS (fun q hq => ⟨by have := HG1.out.size; omega, fun h => by have := H1.out.sl q h; omega⟩), HGD.out⟩
              · have ho1 : (op == 1) = false := by simpa using hop1
                rw [show s1.answer ⟨op, fm, fi, tm, ti⟩ = [] from if_neg (fun h => hop1 h.1)] at HX
                rw [List.append_nil] at HX
                refine wpAnyH_take (i := 0) (oi := { dst := some 82, op := Op.fieldAddr 40 (Operand.tmp 4) 0, type := 0, pos := "arp.go:128", after := #[], guard := none }) (v := ?_) rfl (by kernel_rfl) (by kernel_rfl) (by kernel_rfl) (fun _ _ _ h => h) (Or.inl ⟨by rfl, ?_⟩) hHeld ?_
                rotate_left
                · (intro w hSw; subst hSw; go_simp; first | with_reducible rfl | skip)
                try simp only [Act.put, List.setIfInBounds_toArray, List.set_cons_succ, List.set_cons_zero]
                refine wpAnyH_take (i := 1) (oi := { dst := some 83, op := Op.load 3 (Operand.tmp 82), type := 3, pos := "arp.go:128", after := #[{ on := 0, ground := Ground.data }], guard := none }) (v := ?_) rfl (by kernel_rfl) (by kernel_rfl) (by kernel_rfl) (fun _ _ _ h => h) (Or.inl ⟨by rfl, ?_⟩) hHeld ?_
                rotate_left
                · (intro w hSw; subst hSw; go_simp; first | with_reducible rfl | skip)
                try simp only [Act.put, List.setIfInBounds_toArray, List.set_cons_succ, List.set_cons_zero]
                refine wpAnyH_take (i := 2) (oi := { dst := some 84, op := Op.binOp BinOp.eql 3 (Operand.tmp 83) (Operand.const (Value.int IntKind.i64 1)) 3, type := 4, pos := "arp.go:128", after := #[{ on := 1, ground := Ground.data }], guard := none }) (v := ?_) rfl (by kernel_rfl) (by kernel_rfl) (by kernel_rfl) (fun _ _ _ h => h) (Or.inl ⟨by rfl, ?_⟩) hHeld ?_
                rotate_left
                · (intro w hSw; subst hSw; go_simp; first | with_reducible rfl | skip)
                try simp only [Act.put, List.setIfInBounds_toArray, List.set_cons_succ, List.set_cons_zero]
                refine wpAnyH_take (i := 3) (oi := { dst := some 85, op := Op.move (Operand.tmp 84), type := 4, pos := "arp.go:128", after := #[{ on := 2, ground := Ground.data }], guard := none }) (v := ?_) rfl (by kernel_rfl) (by kernel_rfl) (by kernel_rfl) (fun _ _ _ h => h) (Or.inl ⟨by rfl, ?_⟩) hHeld ?_
                rotate_left
                · (intro w hSw; subst hSw; go_simp; first | with_reducible rfl | skip)
                try simp only [Act.put, List.setIfInBounds_toArray, List.set_cons_succ, List.set_cons_zero]
                refine wpAnyH_take (i := 4) (oi := { dst := some 86, op := Op.fieldAddr 40 (Operand.tmp 4) 4, type := 0, pos := "arp.go:128", after := #[{ on := 3, ground := Ground.guard }], guard := some (3, true) }) (v := undef) rfl (by kernel_rfl) (by kernel_rfl) (by kernel_rfl) (fun _ _ _ h => h) (Or.inr ⟨by rfl, rfl⟩) hHeld ?_
                try simp only [Act.put, List.setIfInBounds_toArray, List.set_cons_succ, List.set_cons_zero]
                refine wpAnyH_take (i := 5) (oi := { dst := some 87, op := Op.load 28 (Operand.tmp 86), type := 28, pos := "arp.go:128", after := #[{ on := 4, ground := Ground.data }, { on := 3, ground := Ground.guard }], guard := some (3, true) }) (v := undef) rfl (by kernel_rfl) (by kernel_rfl) (by kernel_rfl) (fun _ _ _ h => h) (Or.inr ⟨by rfl, rfl⟩) hHeld ?_
                try simp only [Act.put, List.setIfInBounds_toArray, List.set_cons_succ, List.set_cons_zero]
                refine wpAnyH_take (i := 6) (oi := { dst := some 88, op := Op.move (Operand.tmp 0), type := 23, pos := "arp.go:128", after := #[{ on := 3, ground := Ground.guard }], guard := some (3, true) }) (v := undef) rfl (by kernel_rfl) (by kernel_rfl) (by kernel_rfl) (fun _ _ _ h => h) (Or.inr ⟨by rfl, rfl⟩) hHeld ?_
                try simp only [Act.put, List.setIfInBounds_toArray, List.set_cons_succ, List.set_cons_zero]
                refine wpAnyH_take (i := 7) (oi := { dst := some 89, op := Op.nilCheck (Operand.tmp 88), type := 0, pos := "arp.go:128", after := #[{ on := 6, ground := Ground.data }, { on := 3, ground := Ground.guard }], guard := some (3, true) }) (v := undef) rfl (by kernel_rfl) (by kernel_rfl) (by kernel_rfl) (fun _ _ _ h => h) (Or.inr ⟨by rfl, rfl⟩) hHeld ?_
                try simp only [Act.put, List.setIfInBounds_toArray, List.set_cons_succ, List.set_cons_zero]
                refine wpAnyH_take (i := 8) (oi := { dst := some 90, op := Op.fieldAddr 72 (Operand.tmp 89) 1, type := 0, pos := "arp.go:128", after := #[{ on := 7, ground := Ground.data }, { on := 3, ground := Ground.guard }], guard := some (3, true) }) (v := undef) rfl (by kernel_rfl) (by kernel_rfl) (by kernel_rfl) (fun _ _ _ h => h) (Or.inr ⟨by rfl, rfl⟩) hHeld ?_
                try simp only [Act.put, List.setIfInBounds_toArray, List.set_cons_succ, List.set_cons_zero]
                refine wpAnyH_take (i := 9) (oi := { dst := some 91, op := Op.load 28 (Operand.tmp 90), type := 28, pos := "arp.go:128", after := #[{ on := 8, ground := Ground.data }, { on := 3, ground := Ground.guard }], guard := some (3, true) }) (v := undef) rfl (by kernel_rfl) (by kernel_rfl) (by kernel_rfl) (fun _ _ _ h => h) (Or.inr ⟨by rfl, rfl⟩) hHeld ?_
                try simp only [Act.put, List.setIfInBounds_toArray, List.set_cons_succ, List.set_cons_zero]
                refine wpAnyH_take (i := 10) (oi := { dst := some 92, op := Op.binOp BinOp.eql 28 (Operand.tmp 87) (Operand.tmp 91) 28, type := 4, pos := "arp.go:128", after := #[{ on := 5, ground := Ground.data }, { on := 9, ground := Ground.data }, { on := 3, ground := Ground.guard }], guard := some (3, true) }) (v := undef) rfl (by kernel_rfl) (by kernel_rfl) (by kernel_rfl) (fun _ _ _ h => h) (Or.inr ⟨by rfl, rfl⟩) hHeld ?_
                try simp only [Act.put, List.setIfInBounds_toArray, List.set_cons_succ, List.set_cons_zero]
                refine wpAnyH_take (i := 11) (oi := { dst := some 93, op := Op.pick (Operand.tmp 85) (Operand.tmp 92) (Operand.const (Value.bool false)), type := 4, pos := "arp.go:128", after := #[{ on := 3, ground := Ground.data }, { on := 10, ground := Ground.data }], guard := none }) (v := ?_) rfl (by kernel_rfl) (by kernel_rfl) (by kernel_rfl) (fun _ _ _ h => h) (Or.inl ⟨by rfl, ?_⟩) hHeld ?_
                rotate_left
                · (intro w hSw; subst hSw; go_simp; first | with_reducible rfl | skip)
                try simp only [Act.put, List.setIfInBounds_toArray, List.set_cons_succ, List.set_cons_zero]
                refine wpAnyH_done (by kernel_rfl) ?_ _
                clear hHeld j0 j4 ji
                go_wp2
                go_ret2
                rw [HS.out, HX.out]
                exact ⟨_, S, _, rfl, HCD.out, fun q hq => .inl hq, HFD.out.frS (fun q hq => ⟨by have := HG1.out.size; omega, fun h => by have := H1.out.sl q h; omega⟩), HGD.out⟩

        | false =>
          obtain ⟨hlk, hL⟩ : lookK fi s1.m = none ∧ L = [] := by
            rcases HCA.out with ⟨h1, _⟩ | ⟨_, h2, h3⟩
            · cases h1
            · injection h3 with h3 h4 h5 h6 h7; exact ⟨h2, h7⟩
          have HL0 := hid hL
          clear hL
          by_cases htip : ti = s1.ip
          · have htip1 : (ti == s1.ip) = true := by rw [htip]; simp
            refine wpAnyH_take (i := 0) (oi := { dst := some 42, op := Op.move (Operand.tmp 11), type := 4, pos := "arp.go:122", after := #[], guard := none }) (v := ?_) rfl (by kernel_rfl) (by kernel_rfl) (by kernel_rfl) (fun _ _ _ h => h) (Or.inl ⟨by rfl, ?_⟩) hHeld ?_
            rotate_left
            · (intro w hSw; obtain ⟨k4, k1⟩ := hSw; go_simp; first | with_reducible rfl | skip)
            try simp only [Act.put, List.setIfInBounds_toArray, List.set_cons_succ, List.set_cons_zero]
            refine wpAnyH_take (i := 1) (oi := { dst := some 43, op := Op.move (Operand.tmp 42), type := 4, pos := "arp.go:122", after := #[{ on := 0, ground := Ground.data }], guard := none }) (v := ?_) rfl (by kernel_rfl) (by kernel_rfl) (by kernel_rfl) (fun _ _ _ h => h) (Or.inl ⟨by rfl, ?_⟩) hHeld ?_
            rotate_left
            · (intro w hSw; obtain ⟨k4, k1⟩ := hSw; go_simp; first | with_reducible rfl | skip)
            try simp only [Act.put, List.setIfInBounds_toArray, List.set_cons_succ, List.set_cons_zero]
            refine wpAnyH_take (i := 2) (oi := { dst := some 44, op := Op.fieldAddr 40 (Operand.tmp 4) 4, type := 0, pos := "arp.go:122", after := #[{ on := 1, ground := Ground.guard }], guard := some (1, false) }) (v := ?_) rfl (by kernel_rfl) (by kernel_rfl) (by kernel_rfl) (fun _ _ _ h => h) (Or.inl ⟨by rfl, ?_⟩) hHeld ?_
            rotate_left
            · (intro w hSw; obtain ⟨k4, k1⟩ := hSw; go_simp; first | with_reducible rfl | skip)
            try simp only [Act.put, List.setIfInBounds_toArray, List.set_cons_succ, List.set_cons_zero]
            refine wpAnyH_take (i := 3) (oi := { dst := some 45, op := Op.load 28 (Operand.tmp 44), type := 28, pos := "arp.go:122", after := #[{ on := 2, ground := Ground.data }, { on := 1, ground := Ground.guard }], guard := some (1, false) }) (v := ?_) rfl (by kernel_rfl) (by kernel_rfl) (by kernel_rfl) (fun _ _ _ h => h) (Or.inl ⟨by rfl, ?_⟩) hHeld ?_
            rotate_left
            · (intro w hSw; obtain ⟨k4, k1⟩ := hSw; go_simp; first | with_reducible rfl | skip)
            try simp only [Act.put, List.setIfInBounds_toArray, List.set_cons_succ, List.set_cons_zero]
            refine wpAnyH_take (i := 4) (oi := { dst := some 46, op := Op.move (Operand.tmp 0), type := 23, pos := "arp.go:122", after := #[{ on := 1, ground := Ground.guard }], guard := some (1, false) }) (v := ?_) rfl (by kernel_rfl) (by kernel_rfl) (by kernel_rfl) (fun _ _ _ h => h) (Or.inl ⟨by rfl, ?_⟩) hHeld ?_
            rotate_left
            · (intro w hSw; obtain ⟨k4, k1⟩ := hSw; go_simp; first | with_reducible rfl | skip)
            try simp only [Act.put, List.setIfInBounds_toArray, List.set_cons_succ, List.set_cons_zero]
            refine wpAnyH_take (i := 5) (oi := { dst := some 47, op := Op.nilCheck (Operand.tmp 46), type := 0, pos := "arp.go:122", after := #[{ on := 4, ground := Ground.data }, { on := 1, ground := Ground.guard }], guard := some (1, false) }) (v := ?_) rfl (by kernel_rfl) (by kernel_rfl) (by kernel_rfl) (fun _ _ _ h => h) (Or.inl ⟨by rfl, ?_⟩) hHeld ?_
            rotate_left
            · (intro w hSw; obtain ⟨k4, k1⟩ := hSw; go_simp; first | with_reducible rfl | skip)
            try simp only [Act.put, List.setIfInBounds_toArray, List.set_cons_succ, List.set_cons_zero]
            refine wpAnyH_take (i := 6) (oi := { dst := some 48, op := Op.fieldAddr 72 (Operand.tmp 47) 1, type := 0, pos := "arp.go:122", after := #[{ on := 5, ground := Ground.data }, { on := 1, ground := Ground.guard }], guard := some (1, false) }) (v := ?_) rfl (by kernel_rfl) (by kernel_rfl) (by kernel_rfl) (fun _ _ _ h => h) (Or.inl ⟨by rfl, ?_⟩) hHeld ?_
            rotate_left
            · (intro w hSw; obtain ⟨k4, k1⟩ := hSw; go_simp; first | with_reducible rfl | skip)
            try simp only [Act.put, List.setIfInBounds_toArray, List.set_cons_succ, List.set_cons_zero]
            refine wpAnyH_take (i := 7) (oi := { dst := some 49, op := Op.load 28 (Operand.tmp 48), type := 28, pos := "arp.go:122", after := #[{ on := 6, ground := Ground.data }, { on := 1, ground := Ground.guard }], guard := some (1, false) }) (v := ?_) rfl (by kernel_rfl) (by kernel_rfl) (by kernel_rfl) (fun _ _ _ h => h) (Or.inl ⟨by rfl, ?_⟩) hHeld ?_
            rotate_left
            · (intro w hSw; obtain ⟨k4, k1⟩ := hSw; go_simp; first | with_reducible rfl | skip)
            try simp only [Act.put, List.setIfInBounds_toArray, List.set_cons_succ, List.set_cons_zero]
            refine wpAnyH_take (i := 8) (oi := { dst := some 50, op := Op.binOp BinOp.eql 28 (Operand.tmp 45) (Operand.tmp 49) 28, type := 4, pos := "arp.go:122", after := #[{ on := 3, ground := Ground.data }, { on := 7, ground := Ground.data }, { on := 1, ground := Ground.guard }], guard := some (1, false) }) (v := ?_) rfl (by kernel_rfl) (by kernel_rfl) (by kernel_rfl) (fun _ _ _ h => h) (Or.inl ⟨by rfl, ?_⟩) hHeld ?_
            rotate_left
            · (intro w hSw; obtain ⟨k4, k1⟩ := hSw; go_simp; first | with_reducible rfl | skip)
            try simp only [Act.put, List.setIfInBounds_toArray, List.set_cons_succ, List.set_cons_zero]
            refine wpAnyH_take (i := 9) (oi := { dst := some 51, op := Op.move (Operand.tmp 50), type := 4, pos := "arp.go:122", after := #[{ on := 8, ground := Ground.data }, { on := 1, ground := Ground.chain }, { on := 1, ground := Ground.guard }], guard := some (1, false) }) (v := ?_) rfl (by kernel_rfl) (by kernel_rfl) (by kernel_rfl) (fun _ _ _ h => h) (Or.inl ⟨by rfl, ?_⟩) hHeld ?_
            rotate_left
            · (intro w hSw; obtain ⟨k4, k1⟩ := hSw; go_simp; first | with_reducible rfl | skip)
            try simp only [Act.put, List.setIfInBounds_toArray, List.set_cons_succ, List.set_cons_zero]
            refine wpAnyH_take (i := 10) (oi := { dst := some 52, op := Op.move (Operand.tmp 0), type := 23, pos := "arp.go:122", after := #[{ on := 9, ground := Ground.guard }], guard := some (9, true) }) (v := ?_) rfl (by kernel_rfl) (by kernel_rfl) (by kernel_rfl) (fun _ _ _ h => h) (Or.inl ⟨by rfl, ?_⟩) hHeld ?_
            rotate_left
            · (intro w hSw; obtain ⟨k4, k1⟩ := hSw; go_simp; first | with_reducible rfl | skip)
            try simp only [Act.put, List.setIfInBounds_toArray, List.set_cons_succ, List.set_cons_zero]
            refine wpAnyH_ready (rs := [11]) (by kernel_rfl) (by simp) ?_
            refine AllReadyH.cons (o := _) rfl (fun K hK => ?_) AllReadyH.nil
            go_simp
            go_at_call 29
            refine Calls.mono (room_calls S g b M s1 w5 HC5.out) ?_
            rintro er w6 ⟨M2, rfl, hcr, hgr⟩
            have HQ6 := hid (HQ5.out.kept hgr (fun e => by injection e with e; have := HBW.out; omega))
            have ji6 : w6.cell? ⟨g, 1, none⟩ = some (.int .u32 s1.ip) := by
              have := hcr.cells.2.1
              rw [(room_facts s1).2.1] at this
              exact this
            refine hK.out _ _ ⟨HQ6.out.cells.2.2.2, ji6⟩ (fun hHeld => ?_)
            clear hK K
            have HC6 := hid hcr
            have HG6 := hid (HG5.out.trans (Grown2.of_right g hgr))
            have HW6 := hid (HW5.out.agree (Agree.of_grown hgr HC5.out.sl HC5.out.nb))
            have HE6 := hid ((hgr.block en (lt_of_block HE5.out) (fun e => by injection e with e; have := H1.out.map.lt; have := HEN.out; omega)).trans HE5.out)
            have HS6 := hid (Nat.le_trans HS5.out hgr.size)
            clear ji6 hcr hgr j4 ji HC5 HG5 HQ5 HW5 HE5 HS5
            try simp only [Act.put, List.setIfInBounds_toArray, List.set_cons_succ, List.set_cons_zero]
            cases hroom : s1.room.2 with
            | true =>
              have HX := hid (show s1.take2 ⟨op, fm, fi, tm, ti⟩ now = ({ s1.room.1 with m := putK fi ⟨true, fm, now, 0, []⟩ s1.room.1.m }, L.map (s1.bodyF fm) ++ s1.answer ⟨op, fm, fi, tm, ti⟩, 0) by
                unfold Ar.take2
                rw [if_neg HNB.out, HL0.out]
                simp [hlk, htip, hroom])
              have HBO : Hid (∀ x ∈ L, Bytes x ∧ 1 ≤ x.length ∧ x.length ≤ 1500) := hid (fun x h => by rw [HL0.out] at h; simp at h)
              have HMS : Hid (s1.room.1.mac = s1.mac ∧ s1.room.1.ip = s1.ip ∧ s1.room.1.last = now) := hid ⟨(room_facts s1).1, (room_facts s1).2.1, by rw [(room_facts s1).2.2.1]; exact HLA.out⟩
              have HPF : Hid ((putK fi (⟨true, fm, now, 0, []⟩ : En) s1.room.1.m).length ≤ 8) := hid (by
                rw [putK_len _ HC6.out.ok.rise, room_look hlk]
                have := room_few H1.out.ok hroom
                simp
                omega)
              have HN4 : Hid (n1 ≤ 4) := hid (by have h := HN1.out; rw [HL0.out] at h; simp at h; omega)
              clear hlk HCA
              refine wpAnyH_take (i := 12) (oi := { dst := some 54, op := Op.pick (Operand.tmp 51) (Operand.tmp 53) (Operand.const (Value.bool false)), type := 4, pos := "arp.go:122", after := #[{ on := 9, ground := Ground.data }, { on := 11, ground := Ground.data }, { on := 1, ground := Ground.guard }], guard := some (1, false) }) (v := ?_) rfl (by kernel_rfl) (by kernel_rfl) (by kernel_rfl) (fun _ _ _ h => h) (Or.inl ⟨by rfl, ?_⟩) hHeld ?_
              rotate_left
              · (intro w hSw; obtain ⟨k4, k1⟩ := hSw; go_simp; first | with_reducible rfl | skip)
              try simp only [Act.put, List.setIfInBounds_toArray, List.set_cons_succ, List.set_cons_zero]
              refine wpAnyH_take (i := 13) (oi := { dst := some 55, op := Op.pick (Operand.tmp 43) (Operand.const (Value.bool true)) (Operand.tmp 54), type := 4, pos := "arp.go:122", after := #[{ on := 1, ground := Ground.data }, { on := 12, ground := Ground.data }], guard := none }) (v := ?_) rfl (by kernel_rfl) (by kernel_rfl) (by kernel_rfl) (fun _ _ _ h => h) (Or.inl ⟨by rfl, ?_⟩) hHeld ?_
              rotate_left
              · (intro w hSw; obtain ⟨k4, k1⟩ := hSw; go_simp; first | with_reducible rfl | skip)
              try simp only [Act.put, List.setIfInBounds_toArray, List.set_cons_succ, List.set_cons_zero]
              refine wpAnyH_done (by kernel_rfl) ?_ _
              clear hHeld hroom htip htip1
              generalize s1.room.1 = sl at *
              have e4 : w6.cell? ⟨en, 4, none⟩ = some (.slice A1 n1 c1) := cellOf HE6.out rfl
              go_wp2_with fail
              go_loopw [9, 59] (fun out i w' => ∃ (j : Nat), j ≤ n1 ∧ i = .int .i64 j ∧ CSt S w' g b M2 sl ∧ FrB w1.heap.size w' out ((L.take j).map (s1.bodyF fm)) ∧ Grown2 w w' g b ∧ QB w' w.heap.size op fm fi tm ti ∧ WaitS S w' A1 n1 c1 L ∧ w1.heap.size ≤ w'.heap.size) (fun _ i _ => n1 - (intOf i).toNat)
              case atStart => exact ⟨0, by omega, rfl, HC6.out, FrB.nil _ _, HG6.out, HQ6.out, HW6.out, HS6.out⟩
              case round =>
                obtain ⟨j, hj, rfl, hcs, hfr, hgw, hqb, hwt, hsz⟩ := hrel
                have hj0 : (0 : Int) ≤ (j : Int) := by omega
                by_cases hlt : j < n1
                · have hj1 : (j : Int) < (n1 : Int) := by omega
                  have hjl : j < L.length := by have := HN1.out; omega
                  obtain ⟨vs0, hvl, hvr, hvs⟩ := hwt.vs
                  obtain ⟨b1, o1, hA1, hb1l, hc1⟩ := hvr.at_ j (by omega)
                  obtain ⟨vj, hvj, A5, c5, rfl, hR5, hA5, hz5⟩ := hvs.at_ j hjl
                  have hvj2 : vs0[j]'(by omega) = .slice A5 (L[j]'hjl).length c5 := by
                    have h1 : vs0[j]? = some (vs0[j]'(by omega)) := by simp
                    rw [h1] at hvj
                    injection hvj
                  rw [hvj2] at hc1
                  obtain ⟨x5, hx5⟩ : ∃ x, x = L[j]'hjl := ⟨_, rfl⟩
                  have HTK : Hid ((L.take (j + 1)).map (s1.bodyF fm) = (L.take j).map (s1.bodyF fm) ++ [s1.bodyF fm x5]) := hid (by rw [List.take_succ_eq_append_getElem hjl, List.map_append, hx5]; rfl)
                  have hb5 := HBO.out x5 (by rw [hx5]; exact List.getElem_mem hjl)
                  rw [← hx5] at hc1 hR5
                  obtain ⟨n5, hn5⟩ : ∃ n, n = x5.length := ⟨_, rfl⟩
                  rw [← hn5] at hc1
                  subst hA1
                  have i1 := hqb.cells.2.1
                  have c0 := hcs.cells.1
                  have HR5 := hid hR5; have HA5 := hid hA5; have HB5 := hid hb5; have HN5 := hid hn5
                  have HCW := hid hcs; have HFW := hid hfr; have HGW := hid hgw; have HQW := hid hqb; have HWW := hid hwt; have HSW := hid hsz
                  have HJL := hid hjl
                  have hmac := hcs.ok.mac
                  have hfmk := HFM.out
                  clear hz5 hcs hfr hgw hqb hwt hsz hvl hvr hvs hvj hvj2 hR5 hA5 hb5 hn5 hx5 hjl hb1l
                  go_wp2_with (go_at_call 30; refine hold ?_)
                  refine hid ?_
                  refine Calls.mono (cframe_calls g c5 n5 A5 sl.mac fm x5 HN5.out.symm wr c0 (by omega) (by omega) (by have := HB5.out; have := HN5.out; omega) HR5.out HA5.out) ?_
                  rintro eq wq ⟨vq, rfl, hoq, hbq⟩
                  obtain ⟨Aq, nq, cq, rfl⟩ := hoq.form
                  have HOQ := hid hoq; have HBQ := hid hbq
                  obtain ⟨vs, hfo, hfs⟩ := HFW.out
                  have hfn := hfs.len
                  obtain ⟨Ao, co, rfl, _⟩ := hfo.rd
                  have HFO := hid (hfo.below hbq); have HFS := hid (hfs.below hbq); have HFN := hid hfn
                  clear hoq hbq c0 i1 hc1 hfo hfs hfn hmac hfmk
                  go_wp2_with (at_builtin; refine hold ?_)
                  have hbe : Below wq.heap.size wq (wq.alloc (.cells #[.slice Aq nq cq] 31)) := (Below.refl _ _).alloc (Nat.le_refl _) _
                  have hle : OwnV (wq.alloc (.cells #[.slice Aq nq cq] 31)) 0 31 (.slice (some ⟨wq.heap.size, 0, none⟩) 1 1) [.slice Aq nq cq] := OwnV.lit wq 31 0 (Nat.zero_le _) [_] #[_] 1 rfl rfl (by simp [maxLen])
                  obtain ⟨Al, cl, hlv, hx1, hrl, hx2⟩ := hle.rd
                  injection hlv with hl1 hl2 hl3
                  subst hl1
                  refine hid ?_
                  have hvn : vs.length ≤ 4 := by have h := HFN.out; have := HJL.out; have := HN4.out; have := HN1.out; rw [List.length_map, List.length_take] at h; omega
                  refine wpList_appV rfl _ _ 22 31 (.slice none 0 0) rfl 24 rfl elemF w1.heap.size (.slice Ao vs.length co) vs rfl (HFO.out.below hbe) (some ⟨wq.heap.size, 0, none⟩) 1 1 [.slice Aq nq cq] rfl rfl (by simp) hrl (by simp [Value.oneCell']) (by omega) (by unfold maxLen; omega) (by have := HBQ.out.size; have := HSW.out; simp; omega) ?_
                  intro v5 wt ho5 hg5 hat5
                  have hbx := below_then HBQ.out hbe
                  have HFT := hid (FrB.more (HFO.out.below hbe) (HFS.out.below hbe) ((HOQ.out.below hbe).base w1.heap.size HSW.out) ho5 hg5)
                  have hlo : ∀ x, (Value.slice Ao vs.length co).ownBlock = some x → w1.heap.size ≤ x := fun x hx => (HFO.out.lt x hx).1
                  have HCT := hid ((HCW.out.below hbx).row hg5 hlo H1.out.lt H1.out.map.lt H1.out.sl)
                  have HGT := hid ((HGW.out.trans (Grown2.of_below g b hbx)).rowV hg5 (fun x hx => by have := hlo x hx; have := HG1.out.size; omega))
                  have HQT := hid ((HQW.out.below hbx).kept hg5 (fun e => by have := hlo _ e.symm; have := HQB.out; omega))
                  have HWT := hid ((HWW.out.agree (Agree.of_below hbx HCW.out.sl)).agree (show Agree S _ _ from ⟨hg5.size, fun q hq => hg5.block q (by have := HCW.out.sl q hq; have := hbx.size; omega) (fun e => by have := hlo q e.symm; have := H1.out.sl q hq; omega)⟩))
                  have HST := hid (Nat.le_trans (Nat.le_trans HSW.out hbx.size) hg5.size)
                  rw [show etherB fm sl.mac 2048 x5 = s1.bodyF fm x5 by unfold Ar.bodyF; rw [HMS.out.1]] at HFT
                  clear hbe hle hl2 hl3 hx1 hx2 hrl ho5 hg5 hat5 hbx hlo hvn HFO HFS HOQ HBQ HCW HFW HGW HQW HWW HSW
                  have hn4 := HN4.out
                  go_wp2
                  go_roundw
                  case rel => exact ⟨j + 1, by omega, by go_num, HCT.out, by rw [HTK.out]; exact HFT.out, HGT.out, HQT.out, HWT.out, HST.out⟩
                  case measure => simp [intOf]; omega
                · obtain rfl : j = n1 := by omega
                  have hj1 : ¬ (j : Int) < (j : Int) := by omega
                  have htk : L.take j = L := List.take_of_length_le (by have := HN1.out; omega)
                  rw [htk] at hfr
                  have HCW := hid hcs; have HFW := hid hfr; have HGW := hid hgw; have HQW := hid hqb; have HSW := hid hsz
                  clear hcs hfr hgw hqb hwt hsz htk HC6 HG6 HQ6 HW6 HE6 HS6 e4
                  go_wp2_with fail
                  have g3 : wr.drew.cell? ⟨g, 3, none⟩ = some (.map (some b)) := HCW.out.cells.2.2.2.1
                  have i1 : wr.drew.cell? ⟨w.heap.size, 1, none⟩ = some (.int .u64 fm) := HQW.out.cells.2.1
                  have i2 : wr.drew.cell? ⟨w.heap.size, 2, none⟩ = some (.int .u32 fi) := HQW.out.cells.2.2.1
                  have hbd : Below wr.heap.size wr wr.drew := (Below.refl _ _).drew
                  have HC8 := hid (HCW.out.below hbd)
                  have HF8 := hid (HFW.out.below hbd)
                  have HG8 := hid (HGW.out.trans (Grown2.of_below g b hbd))
                  have HQ8 := hid (HQW.out.below hbd)
                  have HS8 := hid (Nat.le_trans HSW.out hbd.size)
                  clear hbd HCW HFW HGW HQW HSW
                  refine wp_region_held_drew (S := fun W => W.cell? ⟨g, 3, none⟩ = some (.map (some b)) ∧ W.cell? ⟨w.heap.size, 1, none⟩ = some (.int .u64 fm) ∧ W.cell? ⟨w.heap.size, 2, none⟩ = some (.int .u32 fi)) (by kernel_rfl) ⟨g3, i1, i2⟩ (fun hHeld => ?_)
                  generalize wr.drew = w8 at *
                  refine wpAnyH_take (i := 0) (oi := { dst := some 72, op := Op.move (Operand.tmp 0), type := 23, pos := "arp.go:126", after := #[], guard := none }) (v := ?_) rfl (by kernel_rfl) (by kernel_rfl) (by kernel_rfl) (fun _ _ _ h => h) (Or.inl ⟨by rfl, ?_⟩) hHeld ?_
                  rotate_left
                  · (intro W hSw; obtain ⟨k3, k1, k2⟩ := hSw; go_simp; first | with_reducible rfl | skip)
                  try simp only [Act.put, List.setIfInBounds_toArray, List.set_cons_succ, List.set_cons_zero]
                  refine wpAnyH_take (i := 1) (oi := { dst := some 73, op := Op.nilCheck (Operand.tmp 72), type := 0, pos := "arp.go:126", after := #[{ on := 0, ground := Ground.data }], guard := none }) (v := ?_) rfl (by kernel_rfl) (by kernel_rfl) (by kernel_rfl) (fun _ _ _ h => h) (Or.inl ⟨by rfl, ?_⟩) hHeld ?_
                  rotate_left
                  · (intro W hSw; obtain ⟨k3, k1, k2⟩ := hSw; go_simp; first | with_reducible rfl | skip)
                  try simp only [Act.put, List.setIfInBounds_toArray, List.set_cons_succ, List.set_cons_zero]
                  refine wpAnyH_take (i := 2) (oi := { dst := some 74, op := Op.fieldAddr 72 (Operand.tmp 73) 3, type := 0, pos := "arp.go:126", after := #[{ on := 1, ground := Ground.data }], guard := none }) (v := ?_) rfl (by kernel_rfl) (by kernel_rfl) (by kernel_rfl) (fun _ _ _ h => h) (Or.inl ⟨by rfl, ?_⟩) hHeld ?_
                  rotate_left
                  · (intro W hSw; obtain ⟨k3, k1, k2⟩ := hSw; go_simp; first | with_reducible rfl | skip)
                  try simp only [Act.put, List.setIfInBounds_toArray, List.set_cons_succ, List.set_cons_zero]
                  refine wpAnyH_take (i := 3) (oi := { dst := some 75, op := Op.load 70 (Operand.tmp 74), type := 70, pos := "arp.go:126", after := #[{ on := 2, ground := Ground.data }], guard := none }) (v := ?_) rfl (by kernel_rfl) (by kernel_rfl) (by kernel_rfl) (fun _ _ _ h => h) (Or.inl ⟨by rfl, ?_⟩) hHeld ?_
                  rotate_left
                  · (intro W hSw; obtain ⟨k3, k1, k2⟩ := hSw; go_simp; first | with_reducible rfl | skip)
                  try simp only [Act.put, List.setIfInBounds_toArray, List.set_cons_succ, List.set_cons_zero]
                  refine wpAnyH_take (i := 4) (oi := { dst := some 76, op := Op.fieldAddr 40 (Operand.tmp 4) 2, type := 0, pos := "arp.go:126", after := #[], guard := none }) (v := ?_) rfl (by kernel_rfl) (by kernel_rfl) (by kernel_rfl) (fun _ _ _ h => h) (Or.inl ⟨by rfl, ?_⟩) hHeld ?_
                  rotate_left
                  · (intro W hSw; obtain ⟨k3, k1, k2⟩ := hSw; go_simp; first | with_reducible rfl | skip)
                  try simp only [Act.put, List.setIfInBounds_toArray, List.set_cons_succ, List.set_cons_zero]
                  refine wpAnyH_take (i := 5) (oi := { dst := some 77, op := Op.load 28 (Operand.tmp 76), type := 28, pos := "arp.go:126", after := #[{ on := 4, ground := Ground.data }], guard := none }) (v := ?_) rfl (by kernel_rfl) (by kernel_rfl) (by kernel_rfl) (fun _ _ _ h => h) (Or.inl ⟨by rfl, ?_⟩) hHeld ?_
                  rotate_left
                  · (intro W hSw; obtain ⟨k3, k1, k2⟩ := hSw; go_simp; first | with_reducible rfl | skip)
                  try simp only [Act.put, List.setIfInBounds_toArray, List.set_cons_succ, List.set_cons_zero]
                  refine wpAnyH_take (i := 6) (oi := { dst := some 78, op := Op.fieldAddr 40 (Operand.tmp 4) 1, type := 0, pos := "arp.go:126", after := #[], guard := none }) (v := ?_) rfl (by kernel_rfl) (by kernel_rfl) (by kernel_rfl) (fun _ _ _ h => h) (Or.inl ⟨by rfl, ?_⟩) hHeld ?_
                  rotate_left
                  · (intro W hSw; obtain ⟨k3, k1, k2⟩ := hSw; go_simp; first | with_reducible rfl | skip)
                  try simp only [Act.put, List.setIfInBounds_toArray, List.set_cons_succ, List.set_cons_zero]
                  refine wpAnyH_take (i := 7) (oi := { dst := some 79, op := Op.load 27 (Operand.tmp 78), type := 27, pos := "arp.go:126", after := #[{ on := 6, ground := Ground.data }], guard := none }) (v := ?_) rfl (by kernel_rfl) (by kernel_rfl) (by kernel_rfl) (fun _ _ _ h => h) (Or.inl ⟨by rfl, ?_⟩) hHeld ?_
                  rotate_left
                  · (intro W hSw; obtain ⟨k3, k1, k2⟩ := hSw; go_simp; first | with_reducible rfl | skip)
                  try simp only [Act.put, List.setIfInBounds_toArray, List.set_cons_succ, List.set_cons_zero]
                  refine wpAnyH_take (i := 8) (oi := { dst := some 80, op := Op.move (Operand.tmp 2), type := 3, pos := "arp.go:126", after := #[], guard := none }) (v := ?_) rfl (by kernel_rfl) (by kernel_rfl) (by kernel_rfl) (fun _ _ _ h => h) (Or.inl ⟨by rfl, ?_⟩) hHeld ?_
                  rotate_left
                  · (intro W hSw; obtain ⟨k3, k1, k2⟩ := hSw; go_simp; first | with_reducible rfl | skip)
                  try simp only [Act.put, List.setIfInBounds_toArray, List.set_cons_succ, List.set_cons_zero]
                  refine wpAnyH_take (i := 9) (oi := { dst := some 81, op := Op.build 78 #[(0, Operand.const (Value.bool true)), (1, Operand.tmp 79), (2, Operand.tmp 80)], type := 78, pos := "arp.go:126", after := #[{ on := 7, ground := Ground.data }, { on := 8, ground := Ground.data }], guard := none }) (v := .agg (enC ⟨true, fm, now, 0, []⟩ none 0 0)) rfl (by kernel_rfl) (by kernel_rfl) (by kernel_rfl) (fun _ _ _ h => h) (Or.inl ⟨by rfl, ?_⟩) hHeld ?_
                  · (intro W hSw; kernel_rfl)
                  try simp only [Act.put, List.setIfInBounds_toArray, List.set_cons_succ, List.set_cons_zero]
                  refine wpAnyH_ready (rs := [10]) (by kernel_rfl) (by simp) ?_
                  refine AllReadyH.cons (o := _) rfl (fun K hK => ?_) AllReadyH.nil
                  refine wp_mput _ _ _ 70 28 78 rfl Try.underlying28 Try.underlying70 b M2 HC8.out.map (by have := HC8.out.ent.len; have := HC8.out.ok.few; unfold maxLen; omega) rfl fi rfl HFI.out _ rfl (fun w9 hM9 hg9 => ?_)
                  have hok : ({ sl with m := putK fi ⟨true, fm, now, 0, []⟩ sl.m } : Ar).Ok := by
                    have h1 := HC8.out.ok.last
                    have h2 := HMS.out.2.2
                    refine HC8.out.ok.put HFI.out ⟨HFM.out.1, HFM.out.2, (by show (0 : Int) ≤ now; omega), (by show now ≤ sl.last; omega), by simp, by simp, by simp, by simp, by simp⟩ HPF.out
                  have hc9 := HC8.out.put (e := ⟨true, fm, now, 0, []⟩) hM9 hg9 ⟨none, 0, 0, rfl, WaitS.none _ _⟩ hok
                  have hq9 := HQ8.out.kept hg9 (fun e => by injection e with e; have := HBW.out; omega)
                  refine hK.out _ _ ⟨hc9.cells.2.2.2.1, hq9.cells.2.1, hq9.cells.2.2.1⟩ (fun hHeld => ?_)
                  clear hK K
                  try simp only [Act.put, List.setIfInBounds_toArray, List.set_cons_succ, List.set_cons_zero]
                  refine wpAnyH_done (by kernel_rfl) ?_ _
                  obtain ⟨sk, hsk⟩ : ∃ x, x = ({ sl with m := putK fi ⟨true, fm, now, 0, []⟩ sl.m } : Ar) := ⟨_, rfl⟩
                  have HMK : Hid (sk.mac = s1.mac ∧ sk.ip = s1.ip) := hid (by rw [hsk]; exact ⟨HMS.out.1, HMS.out.2.1⟩)
                  rw [← hsk] at HX hc9
                  obtain ⟨F, hF⟩ : ∃ F : List (List Int), F = L.map (s1.bodyF fm) := ⟨_, rfl⟩
                  have HFL : Hid (F.length ≤ 8) := hid (by rw [hF, List.length_map]; have := HN1.out; have := HN4.out; omega)
                  rw [← hF] at HX HF8
                  have HCK := hid hc9
                  have HFK := hid (HF8.out.kept hg9 H1.out.map.lt)
                  have HGK := hid (HG8.out.trans (Grown2.of_right g hg9))
                  have HQK := hid hq9
                  have HSD := hid (Nat.le_trans HS8.out hg9.size)
                  clear hF hsk hHeld hM9 hg9 hok hc9 hq9 g3 i1 i2 HC8 HF8 HG8 HQ8 HS8 HPF HBO
                  go_wp2_with fail
                  have j0 : w9.drew.cell? ⟨w.heap.size, 0, none⟩ = some (.int .i64 op) := HQK.out.cells.1
                  have j4 : w9.drew.cell? ⟨w.heap.size, 4, none⟩ = some (.int .u32 ti) := HQK.out.cells.2.2.2
                  have ji : w9.drew.cell? ⟨g, 1, none⟩ = some (.int .u32 sk.ip) := HCK.out.cells.2.1
                  rw [HMK.out.2] at ji
                  have HCD := hid (HCK.out.below (w' := w9.drew) (Below.refl _ _).drew)
                  have HFD := hid (HFK.out.below (w' := w9.drew) (Below.refl _ _).drew)
                  have HGD := hid (HGK.out.trans (Grown2.of_below (w' := w9.drew) g b (Below.refl _ _).drew))
                  have HQD := hid (HQK.out.below (w' := w9.drew) (Below.refl _ _).drew)
                  have HSD := hid (show w1.heap.size ≤ w9.drew.heap.size from HSD.out)
                  clear HCK HFK HGK HQK
                  refine wp_region_held_drew (S := fun W => W = w9.drew) (by kernel_rfl) rfl (fun hHeld => ?_)
                  generalize w9.drew = wd at *
                  by_cases hop1 : op = 1
                  · have ho1 : (op == 1) = true := by rw [hop1]; rfl
                    by_cases htip : ti = s1.ip
                    · have ht1 : (ti == s1.ip) = true := by rw [htip]; simp
                      rw [show s1.answer ⟨op, fm, fi, tm, ti⟩ = [s1.arpF 2 fm fm fi] from if_pos ⟨hop1, htip⟩] at HX
                      refine wpAnyH_take (i := 0) (oi := { dst := some 82, op := Op.fieldAddr 40 (Operand.tmp 4) 0, type := 0, pos := "arp.go:128", after := #[], guard := none }) (v := ?_) rfl (by kernel_rfl) (by kernel_rfl) (by kernel_rfl) (fun _ _ _ h => h) (Or.inl ⟨by rfl, ?_⟩) hHeld ?_
                      rotate_left
                      · (intro w hSw; subst hSw; go_simp; first | with_reducible rfl | skip)
                      try simp only [Act.put, List.setIfInBounds_toArray, List.set_cons_succ, List.set_cons_zero]
                      refine wpAnyH_take (i := 1) (oi := { dst := some 83, op := Op.load 3 (Operand.tmp 82), type := 3, pos := "arp.go:128", after := #[{ on := 0, ground := Ground.data }], guard := none }) (v := ?_) rfl (by kernel_rfl) (by kernel_rfl) (by kernel_rfl) (fun _ _ _ h => h) (Or.inl ⟨by rfl, ?_⟩) hHeld ?_
                      rotate_left
                      · (intro w hSw; subst hSw; go_simp; first | with_reducible rfl | skip)
                      try simp only [Act.put, List.setIfInBounds_toArray, List.set_cons_succ, List.set_cons_zero]
                      refine wpAnyH_take (i := 2) (oi := { dst := some 84, op := Op.binOp BinOp.eql 3 (Operand.tmp 83) (Operand.const (Value.int IntKind.i64 1)) 3, type := 4, pos := "arp.go:128", after := #[{ on := 1, ground := Ground.data }], guard := none }) (v := ?_) rfl (by kernel_rfl) (by kernel_rfl) (by kernel_rfl) (fun _ _ _ h => h) (Or.inl ⟨by rfl, ?_⟩) hHeld ?_
                      rotate_left
                      · (intro w hSw; subst hSw; go_simp; first | with_reducible rfl | skip)
                      try simp only [Act.put, List.setIfInBounds_toArray, List.set_cons_succ, List.set_cons_zero]
                      refine wpAnyH_take (i := 3) (oi := { dst := some 85, op := Op.move (Operand.tmp 84), type := 4, pos := "arp.go:128", after := #[{ on := 2, ground := Ground.data }], guard := none }) (v := ?_) rfl (by kernel_rfl) (by kernel_rfl) (by kernel_rfl) (fun _ _ _ h => h) (Or.inl ⟨by rfl, ?_⟩) hHeld ?_
                      rotate_left
                      · (intro w hSw; subst hSw; go_simp; first | with_reducible rfl | skip)
                      try simp only [Act.put, List.setIfInBounds_toArray, List.set_cons_succ, List.set_cons_zero]
                      refine wpAnyH_take (i := 4) (oi := { dst := some 86, op := Op.fieldAddr 40 (Operand.tmp 4) 4, type := 0, pos := "arp.go:128", after := #[{ on := 3, ground := Ground.guard }], guard := some (3, true) }) (v := ?_) rfl (by kernel_rfl) (by kernel_rfl) (by kernel_rfl) (fun _ _ _ h => h) (Or.inl ⟨by rfl, ?_⟩) hHeld ?_
                      rotate_left
                      · (intro w hSw; subst hSw; go_simp; first | with_reducible rfl | skip)
                      try simp only [Act.put, List.setIfInBounds_toArray, List.set_cons_succ, List.set_cons_zero]
                      refine wpAnyH_take (i := 5) (oi := { dst := some 87, op := Op.load 28 (Operand.tmp 86), type := 28, pos := "arp.go:128", after := #[{ on := 4, ground := Ground.data }, { on := 3, ground := Ground.guard }], guard := some (3, true) }) (v := ?_) rfl (by kernel_rfl) (by kernel_rfl) (by kernel_rfl) (fun _ _ _ h => h) (Or.inl ⟨by rfl, ?_⟩) hHeld ?_
                      rotate_left
                      · (intro w hSw; subst hSw; go_simp; first | with_reducible rfl | skip)
                      try simp only [Act.put, List.setIfInBounds_toArray, List.set_cons_succ, List.set_cons_zero]
                      refine wpAnyH_take (i := 6) (oi := { dst := some 88, op := Op.move (Operand.tmp 0), type := 23, pos := "arp.go:128", after := #[{ on := 3, ground := Ground.guard }], guard := some (3, true) }) (v := ?_) rfl (by kernel_rfl) (by kernel_rfl) (by kernel_rfl) (fun _ _ _ h => h) (Or.inl ⟨by rfl, ?_⟩) hHeld ?_
                      rotate_left
                      · (intro w hSw; subst hSw; go_simp; first | with_reducible rfl | skip)
                      try simp only [Act.put, List.setIfInBounds_toArray, List.set_cons_succ, List.set_cons_zero]
                      refine wpAnyH_take (i := 7) (oi := { dst := some 89, op := Op.nilCheck (Operand.tmp 88), type := 0, pos := "arp.go:128", after := #[{ on := 6, ground := Ground.data }, { on := 3, ground := Ground.guard }], guard := some (3, true) }) (v := ?_) rfl (by kernel_rfl) (by kernel_rfl) (by kernel_rfl) (fun _ _ _ h => h) (Or.inl ⟨by rfl, ?_⟩) hHeld ?_
                      rotate_left
                      · (intro w hSw; subst hSw; go_simp; first | with_reducible rfl | skip)
                      try simp only [Act.put, List.setIfInBounds_toArray, List.set_cons_succ, List.set_cons_zero]
                      refine wpAnyH_take (i := 8) (oi := { dst := some 90, op := Op.fieldAddr 72 (Operand.tmp 89) 1, type := 0, pos := "arp.go:128", after := #[{ on := 7, ground := Ground.data }, { on := 3, ground := Ground.guard }], guard := some (3, true) }) (v := ?_) rfl (by kernel_rfl) (by kernel_rfl) (by kernel_rfl) (fun _ _ _ h => h) (Or.inl ⟨by rfl, ?_⟩) hHeld ?_
                      rotate_left
                      · (intro w hSw; subst hSw; go_simp; first | with_reducible rfl | skip)
                      try simp only [Act.put, List.setIfInBounds_toArray, List.set_cons_succ, List.set_cons_zero]
                      refine wpAnyH_take (i := 9) (oi := { dst := some 91, op := Op.load 28 (Operand.tmp 90), type := 28, pos := "arp.go:128", after := #[{ on := 8, ground := Ground.data }, { on := 3, ground := Ground.guard }], guard := some (3, true) }) (v := ?_) rfl (by kernel_rfl) (by kernel_rfl) (by kernel_rfl) (fun _ _ _ h => h) (Or.inl ⟨by rfl, ?_⟩) hHeld ?_
                      rotate_left
                      · (intro w hSw; subst hSw; go_simp; first | with_reducible rfl | skip)
                      try simp only [Act.put, List.setIfInBounds_toArray, List.set_cons_succ, List.set_cons_zero]
                      refine wpAnyH_take (i := 10) (oi := { dst := some 92, op := Op.binOp BinOp.eql 28 (Operand.tmp 87) (Operand.tmp 91) 28, type := 4, pos := "arp.go:128", after := #[{ on := 5, ground := Ground.data }, { on := 9, ground := Ground.data }, { on := 3, ground := Ground.guard }], guard := some (3, true) }) (v := ?_) rfl (by kernel_rfl) (by kernel_rfl) (by kernel_rfl) (fun _ _ _ h => h) (Or.inl ⟨by rfl, ?_⟩) hHeld ?_
                      rotate_left
                      · (intro w hSw; subst hSw; go_simp; first | with_reducible rfl | skip)
                      try simp only [Act.put, List.setIfInBounds_toArray, List.set_cons_succ, List.set_cons_zero]
                      refine wpAnyH_take (i := 11) (oi := { dst := some 93, op := Op.pick (Operand.tmp 85) (Operand.tmp 92) (Operand.const (Value.bool false)), type := 4, pos := "arp.go:128", after := #[{ on := 3, ground := Ground.data }, { on := 10, ground := Ground.data }], guard := none }) (v := ?_) rfl (by kernel_rfl) (by kernel_rfl) (by kernel_rfl) (fun _ _ _ h => h) (Or.inl ⟨by rfl, ?_⟩) hHeld ?_
                      rotate_left
                      · (intro w hSw; subst hSw; go_simp; first | with_reducible rfl | skip)
                      try simp only [Act.put, List.setIfInBounds_toArray, List.set_cons_succ, List.set_cons_zero]
                      refine wpAnyH_done (by kernel_rfl) ?_ _
                      clear hHeld j0 j4 ji
                      have i1 := HQD.out.cells.2.1
                      have i2 := HQD.out.cells.2.2.1
                      have c0 := HCD.out.cells.1
                      have c1' := HCD.out.cells.2.1
                      have hmk := HCD.out.ok.mac
                      have hfmk := HFM.out
                      go_wp2_with (go_at_call 31; refine hold ?_)
                      refine hid ?_
                      refine Calls.mono (carp_calls g sk.mac sk.ip 2 fm fm fi wd HCD.out.lt c0 c1' (by omega) HCD.out.ok.ip (.inr rfl) (by omega) (by omega) HFI.out) ?_
                      rintro eq wq ⟨vq, rfl, hoq, hbq⟩
                      obtain ⟨Aq, nq, cq, rfl⟩ := hoq.form
                      have HOQ := hid hoq; have HBQ := hid hbq
                      obtain ⟨vs, hfo, hfs⟩ := HFD.out
                      have hfn := hfs.len
                      obtain ⟨Ao, co, rfl, _⟩ := hfo.rd
                      have HFO := hid (hfo.below hbq); have HFS := hid (hfs.below hbq); have HFN := hid hfn
                      have HCQ := hid (HCD.out.below hbq)
                      have HGQ := hid (HGD.out.trans (Grown2.of_below g b hbq))
                      have hsd : w1.heap.size ≤ wd.heap.size := HSD.out
                      clear hoq hbq c0 c1' hfo hfs hfn i1 i2 hmk hfmk
                      go_wp2_with (at_builtin; refine hold ?_)
                      have hbe : Below wq.heap.size wq (wq.alloc (.cells #[.slice Aq nq cq] 31)) := (Below.refl _ _).alloc (Nat.le_refl _) _
                      have hle : OwnV (wq.alloc (.cells #[.slice Aq nq cq] 31)) 0 31 (.slice (some ⟨wq.heap.size, 0, none⟩) 1 1) [.slice Aq nq cq] := OwnV.lit wq 31 0 (Nat.zero_le _) [_] #[_] 1 rfl rfl (by simp [maxLen])
                      obtain ⟨Al, cl, hlv, hx1, hrl, hx2⟩ := hle.rd
                      injection hlv with hl1 hl2 hl3
                      subst hl1
                      refine hid ?_
                      refine wpList_appV rfl _ _ 22 31 (.slice none 0 0) rfl 24 rfl elemF w1.heap.size (.slice Ao vs.length co) vs rfl (HFO.out.below hbe) (some ⟨wq.heap.size, 0, none⟩) 1 1 [.slice Aq nq cq] rfl rfl (by simp) hrl (by simp [Value.oneCell']) (by have := HFN.out; have := HFL.out; simp; omega) (by have := HFN.out; have := HFL.out; simp [maxLen]; omega) (by have := HBQ.out.size; simp; omega) ?_
                      intro v5 wt ho5 hg5 hat5
                      have hbx := below_then HBQ.out hbe
                      have HFT := hid (FrB.more (HFO.out.below hbe) (HFS.out.below hbe) ((HOQ.out.below hbe).base w1.heap.size hsd) ho5 hg5)
                      have hlo : ∀ x, (Value.slice Ao vs.length co).ownBlock = some x → w1.heap.size ≤ x := fun x hx => (HFO.out.lt x hx).1
                      have HCT := hid ((HCQ.out.below hbe).row hg5 hlo H1.out.lt H1.out.map.lt H1.out.sl)
                      have HGT := hid ((HGQ.out.trans (Grown2.of_below g b hbe)).rowV hg5 (fun x hx => by have := hlo x hx; have := HG1.out.size; omega))
                      rw [show etherB fm sk.mac 2054 (arpB 2 sk.mac sk.ip fm fi) = s1.arpF 2 fm fm fi by unfold Ar.arpF; rw [HMK.out.1, HMK.out.2]] at HFT
                      clear hbe hle hl2 hl3 hx1 hx2 hrl ho5 hg5 hat5 hbx hlo
                      go_wp2
                      go_ret2
                      rw [HS.out, HX.out]
                      exact ⟨_, S, _, rfl, HCT.out, fun q hq => .inl hq, HFT.out.frS (fun q hq => ⟨by have := HG1.out.size; omega, fun h => by have := H1.out.sl q h; omega⟩), HGT.out⟩
                    · have ht1 : (ti == s1.ip) = false := by simpa using htip
                      rw [show s1.answer ⟨op, fm, fi, tm, ti⟩ = [] from if_neg (fun h => htip h.2)] at HX
                      rw [List.append_nil] at HX
                      refine wpAnyH_take (i := 0) (oi := { dst := some 82, op := Op.fieldAddr 40 (Operand.tmp 4) 0, type := 0, pos := "arp.go:128", after := #[], guard := none }) (v := ?_) rfl (by kernel_rfl) (by kernel_rfl) (by kernel_rfl) (fun _ _ _ h => h) (Or.inl ⟨by rfl, ?_⟩) hHeld ?_
                      rotate_left
                      · (intro w hSw; subst hSw; go_simp; first | with_reducible rfl | skip)
                      try simp only [Act.put, List.setIfInBounds_toArray, List.set_cons_succ, List.set_cons_zero]
                      refine wpAnyH_take (i := 1) (oi := { dst := some 83, op := Op.load 3 (Operand.tmp 82), type := 3, pos := "arp.go:128", after := #[{ on := 0, ground := Ground.data }], guard := none }) (v := ?_) rfl (by kernel_rfl) (by kernel_rfl) (by kernel_rfl) (fun _ _ _ h => h) (Or.inl ⟨by rfl, ?_⟩) hHeld ?_
                      rotate_left
                      · (intro w hSw; subst hSw; go_simp; first | with_reducible rfl | skip)
                      try simp only [Act.put, List.setIfInBounds_toArray, List.set_cons_succ, List.set_cons_zero]
                      refine wpAnyH_take (i := 2) (oi := { dst := some 84, op := Op.binOp BinOp.eql 3 (Operand.tmp 83) (Operand.const (Value.int IntKind.i64 1)) 3, type := 4, pos := "arp.go:128", after := #[{ on := 1, ground := Ground.data }], guard := none }) (v := ?_) rfl (by kernel_rfl) (by kernel_rfl) (by kernel_rfl) (fun _ _ _ h => h) (Or.inl ⟨by rfl, ?_⟩) hHeld ?_
                      rotate_left
                      · (intro w hSw; subst hSw; go_simp; first | with_reducible rfl | skip)
                      try simp only [Act.put, List.setIfInBounds_toArray, List.set_cons_succ, List.set_cons_zero]
                      refine wpAnyH_take (i := 3) (oi := { dst := some 85, op := Op.move (Operand.tmp 84), type := 4, pos := "arp.go:128", after := #[{ on := 2, ground := Ground.data }], guard := none }) (v := ?_) rfl (by kernel_rfl) (by kernel_rfl) (by kernel_rfl) (fun _ _ _ h => h) (Or.inl ⟨by rfl, ?_⟩) hHeld ?_
                      rotate_left
                      · (intro w hSw; subst hSw; go_simp; first | with_reducible rfl | skip)
                      try simp only [Act.put, List.setIfInBounds_toArray, List.set_cons_succ, List.set_cons_zero]
                      refine wpAnyH_take (i := 4) (oi := { dst := some 86, op := Op.fieldAddr 40 (Operand.tmp 4) 4, type := 0, pos := "arp.go:128", after := #[{ on := 3, ground := Ground.guard }], guard := some (3, true) }) (v := ?_) rfl (by kernel_rfl) (by kernel_rfl) (by kernel_rfl) (fun _ _ _ h => h) (Or.inl ⟨by rfl, ?_⟩) hHeld ?_
                      rotate_left
                      · (intro w hSw; subst hSw; go_simp; first | with_reducible rfl | skip)
                      try simp only [Act.put, List.setIfInBounds_toArray, List.set_cons_succ, List.set_cons_zero]
                      refine wpAnyH_take (i := 5) (oi := { dst := some 87, op := Op.load 28 (Operand.tmp 86), type := 28, pos := "arp.go:128", after := #[{ on := 4, ground := Ground.data }, { on := 3, ground := Ground.guard }], guard := some (3, true) }) (v := ?_) rfl (by kernel_rfl) (by kernel_rfl) (by kernel_rfl) (fun _ _ _ h => h) (Or.inl ⟨by rfl, ?_⟩) hHeld ?_
                      rotate_left
                      · (intro w hSw; subst hSw; go_simp; first | with_reducible rfl | skip)
                      try simp only [Act.put, List.setIfInBounds_toArray, List.set_cons_succ, List.set_cons_zero]
                      refine wpAnyH_take (i := 6) (oi := { dst := some 88, op := Op.move (Operand.tmp 0), type := 23, pos := "arp.go:128", after := #[{ on := 3, ground := Ground.guard }], guard := some (3, true) }) (v := ?_) rfl (by kernel_rfl) (by kernel_rfl) (by kernel_rfl) (fun _ _ _ h => h) (Or.inl ⟨by rfl, ?_⟩) hHeld ?_
                      rotate_left
                      · (intro w hSw; subst hSw; go_simp; first | with_reducible rfl | skip)
                      try simp only [Act.put, List.setIfInBounds_toArray, List.set_cons_succ, List.set_cons_zero]
                      refine wpAnyH_take (i := 7) (oi := { dst := some 89, op := Op.nilCheck (Operand.tmp 88), type := 0, pos := "arp.go:128", after := #[{ on := 6, ground := Ground.data }, { on := 3, ground := Ground.guard }], guard := some (3, true) }) (v := ?_) rfl (by kernel_rfl) (by kernel_rfl) (by kernel_rfl) (fun _ _ _ h => h) (Or.inl ⟨by rfl, ?_⟩) hHeld ?_
                      rotate_left
                      · (intro w hSw; subst hSw; go_simp; first | with_reducible rfl | skip)
                      try simp only [Act.put, List.setIfInBounds_toArray, List.set_cons_succ, List.set_cons_zero]
                      refine wpAnyH_take (i := 8) (oi := { dst := some 90, op := Op.fieldAddr 72 (Operand.tmp 89) 1, type := 0, pos := "arp.go:128", after := #[{ on := 7, ground := Ground.data }, { on := 3, ground := Ground.guard }], guard := some (3, true) }) (v := ?_) rfl (by kernel_rfl) (by kernel_rfl) (by kernel_rfl) (fun _ _ _ h => h) (Or.inl ⟨by rfl, ?_⟩) hHeld ?_
                      rotate_left
                      · (intro w hSw; subst hSw; go_simp; first | with_reducible rfl | skip)
                      try simp only [Act.put, List.setIfInBounds_toArray, List.set_cons_succ, List.set_cons_zero]
                      refine wpAnyH_take (i := 9) (oi := { dst := some 91, op := Op.load 28 (Operand.tmp 90), type := 28, pos := "arp.go:128", after := #[{ on := 8, ground := Ground.data }, { on := 3, ground := Ground.guard }], guard := some (3, true) }) (v := ?_) rfl (by kernel_rfl) (by kernel_rfl) (by kernel_rfl) (fun _ _ _ h => h) (Or.inl ⟨by rfl, ?_⟩) hHeld ?_
                      rotate_left
                      · (intro w hSw; subst hSw; go_simp; first | with_reducible rfl | skip)
                      try simp only [Act.put, List.setIfInBounds_toArray, List.set_cons_succ, List.set_cons_zero]
                      refine wpAnyH_take (i := 10) (oi := { dst := some 92, op := Op.binOp BinOp.eql 28 (Operand.tmp 87) (Operand.tmp 91) 28, type := 4, pos := "arp.go:128", after := #[{ on := 5, ground := Ground.data }, { on := 9, ground := Ground.data }, { on := 3, ground := Ground.guard }], guard := some (3, true) }) (v := ?_) rfl (by kernel_rfl) (by kernel_rfl) (by kernel_rfl) (fun _ _ _ h => h) (Or.inl ⟨by rfl, ?_⟩) hHeld ?_
                      rotate_left
                      · (intro w hSw; subst hSw; go_simp; first | with_reducible rfl | skip)
                      try simp only [Act.put, List.setIfInBounds_toArray, List.set_cons_succ, List.set_cons_zero]
                      refine wpAnyH_take (i := 11) (oi := { dst := some 93, op := Op.pick (Operand.tmp 85) (Operand.tmp 92) (Operand.const (Value.bool false)), type := 4, pos := "arp.go:128", after := #[{ on := 3, ground := Ground.data }, { on := 10, ground := Ground.data }], guard := none }) (v := ?_) rfl (by kernel_rfl) (by kernel_rfl) (by kernel_rfl) (fun _ _ _ h => h) (Or.inl ⟨by rfl, ?_⟩) hHeld ?_
                      rotate_left
                      · (intro w hSw; subst hSw; go_simp; first | with_reducible rfl | skip)
                      try simp only [Act.put, List.setIfInBounds_toArray, List.set_cons_succ, List.set_cons_zero]
                      refine wpAnyH_done (by kernel_rfl) ?_ _
                      clear hHeld j0 j4 ji
                      go_wp2
                      go_ret2
                      rw [HS.out, HX.out]
                      exact ⟨_, S, _, rfl, HCD.out, fun q hq => .inl hq, HFD.out.frS (fun q hq => ⟨by have := HG1.out.size; omega, fun h => by have := H1.out.sl q h; omega⟩), HGD.out⟩
                  · have ho1 : (op == 1) = false := by simpa using hop1
                    rw [show s1.answer ⟨op, fm, fi, tm, ti⟩ = [] from if_neg (fun h => hop1 h.1)] at HX
                    rw [List.append_nil] at HX
                    refine wpAnyH_take (i := 0) (oi := { dst := some 82, op := Op.fieldAddr 40 (Operand.tmp 4) 0, type := 0, pos := "arp.go:128", after := #[], guard := none }) (v := ?_) rfl (by kernel_rfl) (by kernel_rfl) (by kernel_rfl) (fun _ _ _ h => h) (Or.inl ⟨by rfl, ?_⟩) hHeld ?_
                    rotate_left
                    · (intro w hSw; subst hSw; go_simp; first | with_reducible rfl | skip)
                    try simp only [Act.put, List.setIfInBounds_toArray, List.set_cons_succ, List.set_cons_zero]
                    refine wpAnyH_take (i := 1) (oi := { dst := some 83, op := Op.load 3 (Operand.tmp 82), type := 3, pos := "arp.go:128", after := #[{ on := 0, ground := Ground.data }], guard := none }) (v := ?_) rfl (by kernel_rfl) (by kernel_rfl) (by kernel_rfl) (fun _ _ _ h => h) (Or.inl ⟨by rfl, ?_⟩) hHeld ?_
                    rotate_left
                    · (intro w hSw; subst hSw; go_simp; first | with_reducible rfl | skip)
                    try simp only [Act.put, List.setIfInBounds_toArray, List.set_cons_succ, List.set_cons_zero]
                    refine wpAnyH_take (i := 2) (oi := { dst := some 84, op := Op.binOp BinOp.eql 3 (Operand.tmp 83) (Operand.const (Value.int IntKind.i64 1)) 3, type := 4, pos := "arp.go:128", after := #[{ on := 1, ground := Ground.data }], guard := none }) (v := ?_) rfl (by kernel_rfl) (by kernel_rfl) (by kernel_rfl) (fun _ _ _ h => h) (Or.inl ⟨by rfl, ?_⟩) hHeld ?_
                    rotate_left
                    · (intro w hSw; subst hSw; go_simp; first | with_reducible rfl | skip)
                    try simp only [Act.put, List.setIfInBounds_toArray, List.set_cons_succ, List.set_cons_zero]
                    refine wpAnyH_take (i := 3) (oi := { dst := some 85, op := Op.move (Operand.tmp 84), type := 4, pos := "arp.go:128", after := #[{ on := 2, ground := Ground.data }], guard := none }) (v := ?_) rfl (by kernel_rfl) (by kernel_rfl) (by kernel_rfl) (fun _ _ _ h => h) (Or.inl ⟨by rfl, ?_⟩) hHeld ?_
                    rotate_left
                    · (intro w hSw; subst hSw; go_simp; first | with_reducible rfl | skip)
                    try simp only [Act.put, List.setIfInBounds_toArray, List.set_cons_succ, List.set_cons_zero]
                    refine wpAnyH_take (i := 4) (oi := { dst := some 86, op := Op.fieldAddr 40 (Operand.tmp 4) 4, type := 0, pos := "arp.go:128", after := #[{ on := 3, ground := Ground.guard }], guard := some (3, true) }) (v := undef) rfl (by kernel_rfl) (by kernel_rfl) (by kernel_rfl) (fun _ _ _ h => h) (Or.inr ⟨by rfl, rfl⟩) hHeld ?_
                    try simp only [Act.put, List.setIfInBounds_toArray, List.set_cons_succ, List.set_cons_zero]
                    refine wpAnyH_take (i := 5) (oi := { dst := some 87, op := Op.load 28 (Operand.tmp 86), type := 28, pos := "arp.go:128", after := #[{ on := 4, ground := Ground.data }, { on := 3, ground := Ground.guard }], guard := some (3, true) }) (v := undef) rfl (by kernel_rfl) (by kernel_rfl) (by kernel_rfl) (fun _ _ _ h => h) (Or.inr ⟨by rfl, rfl⟩) hHeld ?_
                    try simp only [Act.put, List.setIfInBounds_toArray, List.set_cons_succ, List.set_cons_zero]
                    refine wpAnyH_take (i := 6) (oi := { dst := some 88, op := Op.move (Operand.tmp 0), type := 23, pos := "arp.go:128", after := #[{ on := 3, ground := Ground.guard }], guard := some (3, true) }) (v := undef) rfl (by kernel_rfl) (by kernel_rfl) (by kernel_rfl) (fun _ _ _ h => h) (Or.inr ⟨by rfl, rfl⟩) hHeld ?_
                    try simp only [Act.put, List.setIfInBounds_toArray, List.set_cons_succ, List.set_cons_zero]
                    refine wpAnyH_take (i := 7) (oi := { dst := some 89, op := Op.nilCheck (Operand.tmp 88), type := 0, pos := "arp.go:128", after := #[{ on := 6, ground := Ground.data }, { on := 3, ground := Ground.guard }], guard := some (3, true) }) (v := undef) rfl (by kernel_rfl) (by kernel_rfl) (by kernel_rfl) (fun _ _ _ h => h) (Or.inr ⟨by rfl, rfl⟩) hHeld ?_
                    try simp only [Act.put, List.setIfInBounds_toArray, List.set_cons_succ, List.set_cons_zero]
                    refine wpAnyH_take (i := 8) (oi := { dst := some 90, op := Op.fieldAddr 72 (Operand.tmp 89) 1, type := 0, pos := "arp.go:128", after := #[{ on := 7, ground := Ground.data }, { on := 3, ground := Ground.guard }], guard := some (3, true) }) (v := undef) rfl (by kernel_rfl) (by kernel_rfl) (by kernel_rfl) (fun _ _ _ h => h) (Or.inr ⟨by rfl, rfl⟩) hHeld ?_
                    try simp only [Act.put, List.setIfInBounds_toArray, List.set_cons_succ, List.set_cons_zero]
                    refine wpAnyH_take (i := 9) (oi := { dst := some 91, op := Op.load 28 (Operand.tmp 90), type := 28, pos := "arp.go:128", after := #[{ on := 8, ground := Ground.data }, { on := 3, ground := Ground.guard }], guard := some (3, true) }) (v := undef) rfl (by kernel_rfl) (by kernel_rfl) (by kernel_rfl) (fun _ _ _ h => h) (Or.inr ⟨by rfl, rfl⟩) hHeld ?_
                    try simp only [Act.put, List.setIfInBounds_toArray, List.set_cons_succ, List.set_cons_zero]
                    refine wpAnyH_take (i := 10) (oi := { dst := some 92, op := Op.binOp BinOp.eql 28 (Operand.tmp 87) (Operand.tmp 91) 28, type := 4, pos := "arp.go:128", after := #[{ on := 5, ground := Ground.data }, { on := 9, ground := Ground.data }, { on := 3, ground := Ground.guard }], guard := some (3, true) }) (v := undef) rfl (by kernel_rfl) (by kernel_rfl) (by kernel_rfl) (fun _ _ _ h => h) (Or.inr ⟨by rfl, rfl⟩) hHeld ?_
                    try simp only [Act.put, List.setIfInBounds_toArray, List.set_cons_succ, List.set_cons_zero]
                    refine wpAnyH_take (i := 11) (oi := { dst := some 93, op := Op.pick (Operand.tmp 85) (Operand.tmp 92) (Operand.const (Value.bool false)), type := 4, pos := "arp.go:128", after := #[{ on := 3, ground := Ground.data }, { on := 10, ground := Ground.data }], guard := none }) (v := ?_) rfl (by kernel_rfl) (by kernel_rfl) (by kernel_rfl) (fun _ _ _ h => h) (Or.inl ⟨by rfl, ?_⟩) hHeld ?_
                    rotate_left
                    · (intro w hSw; subst hSw; go_simp; first | with_reducible rfl | skip)
                    try simp only [Act.put, List.setIfInBounds_toArray, List.set_cons_succ, List.set_cons_zero]
                    refine wpAnyH_done (by kernel_rfl) ?_ _
                    clear hHeld j0 j4 ji
                    go_wp2
                    go_ret2
                    rw [HS.out, HX.out]
                    exact ⟨_, S, _, rfl, HCD.out, fun q hq => .inl hq, HFD.out.frS (fun q hq => ⟨by have := HG1.out.size; omega, fun h => by have := H1.out.sl q h; omega⟩), HGD.out⟩

            | false =>
              have HX := hid (show s1.take2 ⟨op, fm, fi, tm, ti⟩ now = (s1.room.1, [] ++ s1.answer ⟨op, fm, fi, tm, ti⟩, 0) by
                unfold Ar.take2
                rw [if_neg HNB.out]
                simp [hlk, htip, hroom])
              have HMK : Hid (s1.room.1.mac = s1.mac ∧ s1.room.1.ip = s1.ip) := hid ⟨(room_facts s1).1, (room_facts s1).2.1⟩
              clear hlk HCA
              refine wpAnyH_take (i := 12) (oi := { dst := some 54, op := Op.pick (Operand.tmp 51) (Operand.tmp 53) (Operand.const (Value.bool false)), type := 4, pos := "arp.go:122", after := #[{ on := 9, ground := Ground.data }, { on := 11, ground := Ground.data }, { on := 1, ground := Ground.guard }], guard := some (1, false) }) (v := ?_) rfl (by kernel_rfl) (by kernel_rfl) (by kernel_rfl) (fun _ _ _ h => h) (Or.inl ⟨by rfl, ?_⟩) hHeld ?_
              rotate_left
              · (intro w hSw; obtain ⟨k4, k1⟩ := hSw; go_simp; first | with_reducible rfl | skip)
              try simp only [Act.put, List.setIfInBounds_toArray, List.set_cons_succ, List.set_cons_zero]
              refine wpAnyH_take (i := 13) (oi := { dst := some 55, op := Op.pick (Operand.tmp 43) (Operand.const (Value.bool true)) (Operand.tmp 54), type := 4, pos := "arp.go:122", after := #[{ on := 1, ground := Ground.data }, { on := 12, ground := Ground.data }], guard := none }) (v := ?_) rfl (by kernel_rfl) (by kernel_rfl) (by kernel_rfl) (fun _ _ _ h => h) (Or.inl ⟨by rfl, ?_⟩) hHeld ?_
              rotate_left
              · (intro w hSw; obtain ⟨k4, k1⟩ := hSw; go_simp; first | with_reducible rfl | skip)
              try simp only [Act.put, List.setIfInBounds_toArray, List.set_cons_succ, List.set_cons_zero]
              refine wpAnyH_done (by kernel_rfl) ?_ _
              clear hHeld hroom htip htip1
              generalize s1.room.1 = sk at *
              have HCK := HC6
              have HFK := hid (FrB.nil w1.heap.size w6)
              have HGK := HG6; have HQK := HQ6
              have HSD := HS6
              have HFL : Hid (([] : List (List Int)).length ≤ 8) := hid (by simp)
              obtain ⟨F, hF⟩ : ∃ F : List (List Int), F = [] := ⟨_, rfl⟩
              rw [← hF] at HX HFK HFL
              clear hF HC6 HG6 HQ6 HS6 HE6 HW6
              go_wp2_with fail
              have j0 : w6.drew.cell? ⟨w.heap.size, 0, none⟩ = some (.int .i64 op) := HQK.out.cells.1
              have j4 : w6.drew.cell? ⟨w.heap.size, 4, none⟩ = some (.int .u32 ti) := HQK.out.cells.2.2.2
              have ji : w6.drew.cell? ⟨g, 1, none⟩ = some (.int .u32 sk.ip) := HCK.out.cells.2.1
              rw [HMK.out.2] at ji
              have HCD := hid (HCK.out.below (w' := w6.drew) (Below.refl _ _).drew)
              have HFD := hid (HFK.out.below (w' := w6.drew) (Below.refl _ _).drew)
              have HGD := hid (HGK.out.trans (Grown2.of_below (w' := w6.drew) g b (Below.refl _ _).drew))
              have HQD := hid (HQK.out.below (w' := w6.drew) (Below.refl _ _).drew)
              have HSD := hid (show w1.heap.size ≤ w6.drew.heap.size from HSD.out)
              clear HCK HFK HGK HQK
              refine wp_region_held_drew (S := fun W => W = w6.drew) (by kernel_rfl) rfl (fun hHeld => ?_)
              generalize w6.drew = wd at *
              by_cases hop1 : op = 1
              · have ho1 : (op == 1) = true := by rw [hop1]; rfl
                by_cases htip : ti = s1.ip
                · have ht1 : (ti == s1.ip) = true := by rw [htip]; simp
                  rw [show s1.answer ⟨op, fm, fi, tm, ti⟩ = [s1.arpF 2 fm fm fi] from if_pos ⟨hop1, htip⟩] at HX
                  refine wpAnyH_take (i := 0) (oi := { dst := some 82, op := Op.fieldAddr 40 (Operand.tmp 4) 0, type := 0, pos := "arp.go:128", after := #[], guard := none }) (v := ?_) rfl (by kernel_rfl) (by kernel_rfl) (by kernel_rfl) (fun _ _ _ h => h) (Or.inl ⟨by rfl, ?_⟩) hHeld ?_
                  rotate_left
                  · (intro w hSw; subst hSw; go_simp; first | with_reducible rfl | skip)
                  try simp only [Act.put, List.setIfInBounds_toArray, List.set_cons_succ, List.set_cons_zero]
                  refine wpAnyH_take (i := 1) (oi := { dst := some 83, op := Op.load 3 (Operand.tmp 82), type := 3, pos := "arp.go:128", after := #[{ on := 0, ground := Ground.data }], guard := none }) (v := ?_) rfl (by kernel_rfl) (by kernel_rfl) (by kernel_rfl) (fun _ _ _ h => h) (Or.inl ⟨by rfl, ?_⟩) hHeld ?_
                  rotate_left
                  · (intro w hSw; subst hSw; go_simp; first | with_reducible rfl | skip)
                  try simp only [Act.put, List.setIfInBounds_toArray, List.set_cons_succ, List.set_cons_zero]
                  refine wpAnyH_take (i := 2) (oi := { dst := some 84, op := Op.binOp BinOp.eql 3 (Operand.tmp 83) (Operand.const (Value.int IntKind.i64 1)) 3, type := 4, pos := "arp.go:128", after := #[{ on := 1, ground := Ground.data }], guard := none }) (v := ?_) rfl (by kernel_rfl) (by kernel_rfl) (by kernel_rfl) (fun _ _ _ h => h) (Or.inl ⟨by rfl, ?_⟩) hHeld ?_
                  rotate_left
                  · (intro w hSw; subst hSw; go_simp; first | with_reducible rfl | skip)
                  try simp only [Act.put, List.setIfInBounds_toArray, List.set_cons_succ, List.set_cons_zero]
                  refine wpAnyH_take (i := 3) (oi := { dst := some 85, op := Op.move (Operand.tmp 84), type := 4, pos := "arp.go:128", after := #[{ on := 2, ground := Ground.data }], guard := none }) (v := ?_) rfl (by kernel_rfl) (by kernel_rfl) (by kernel_rfl) (fun _ _ _ h => h) (Or.inl ⟨by rfl, ?_⟩) hHeld ?_
                  rotate_left
                  · (intro w hSw; subst hSw; go_simp; first | with_reducible rfl | skip)
                  try simp only [Act.put, List.setIfInBounds_toArray, List.set_cons_succ, List.set_cons_zero]
                  refine wpAnyH_take (i := 4) (oi := { dst := some 86, op := Op.fieldAddr 40 (Operand.tmp 4) 4, type := 0, pos := "arp.go:128", after := #[{ on := 3, ground := Ground.guard }], guard := some (3, true) }) (v := ?_) rfl (by kernel_rfl) (by kernel_rfl) (by kernel_rfl) (fun _ _ _ h => h) (Or.inl ⟨by rfl, ?_⟩) hHeld ?_
                  rotate_left
                  · (intro w hSw; subst hSw; go_simp; first | with_reducible rfl | skip)
                  try simp only [Act.put, List.setIfInBounds_toArray, List.set_cons_succ, List.set_cons_zero]
                  refine wpAnyH_take (i := 5) (oi := { dst := some 87, op := Op.load 28 (Operand.tmp 86), type := 28, pos := "arp.go:128", after := #[{ on := 4, ground := Ground.data }, { on := 3, ground := Ground.guard }], guard := some (3, true) }) (v := ?_) rfl (by kernel_rfl) (by kernel_rfl) (by kernel_rfl) (fun _ _ _ h => h) (Or.inl ⟨by rfl, ?_⟩) hHeld ?_
                  rotate_left
                  · (intro w hSw; subst hSw; go_simp; first | with_reducible rfl | skip)
                  try simp only [Act.put, List.setIfInBounds_toArray, List.set_cons_succ, List.set_cons_zero]
                  refine wpAnyH_take (i := 6) (oi := { dst := some 88, op := Op.move (Operand.tmp 0), type := 23, pos := "arp.go:128", after := #[{ on := 3, ground := Ground.guard }], guard := some (3, true) }) (v := ?_) rfl (by kernel_rfl) (by kernel_rfl) (by kernel_rfl) (fun _ _ _ h => h) (Or.inl ⟨by rfl, ?_⟩) hHeld ?_
                  rotate_left
                  · (intro w hSw; subst hSw; go_simp; first | with_reducible rfl | skip)
                  try simp only [Act.put, List.setIfInBounds_toArray, List.set_cons_succ, List.set_cons_zero]
                  refine wpAnyH_take (i := 7) (oi := { dst := some 89, op := Op.nilCheck (Operand.tmp 88), type := 0, pos := "arp.go:128", after := #[{ on := 6, ground := Ground.data }, { on := 3, ground := Ground.guard }], guard := some (3, true) }) (v := ?_) rfl (by kernel_rfl) (by kernel_rfl) (by kernel_rfl) (fun _ _ _ h => h) (Or.inl ⟨by rfl, ?_⟩) hHeld ?_
                  rotate_left
                  · (intro w hSw; subst hSw; go_simp; first | with_reducible rfl | skip)
                  try simp only [Act.put, List.setIfInBounds_toArray, List.set_cons_succ, List.set_cons_zero]
                  refine wpAnyH_take (i := 8) (oi := { dst := some 90, op := Op.fieldAddr 72 (Operand.tmp 89) 1, type := 0, pos := "arp.go:128", after := #[{ on := 7, ground := Ground.data }, { on := 3, ground := Ground.guard }], guard := some (3, true) }) (v := ?_) rfl (by kernel_rfl) (by kernel_rfl) (by kernel_rfl) (fun _ _ _ h => h) (Or.inl ⟨by rfl, ?_⟩) hHeld ?_
                  rotate_left
                  · (intro w hSw; subst hSw; go_simp; first | with_reducible rfl | skip)
                  try simp only [Act.put, List.setIfInBounds_toArray, List.set_cons_succ, List.set_cons_zero]
                  refine wpAnyH_take (i := 9) (oi := { dst := some 91, op := Op.load 28 (Operand.tmp 90), type := 28, pos := "arp.go:128", after := #[{ on := 8, ground := Ground.data }, { on := 3, ground := Ground.guard }], guard := some (3, true) }) (v := ?_) rfl (by kernel_rfl) (by kernel_rfl) (by kernel_rfl) (fun _ _ _ h => h) (Or.inl ⟨by rfl, ?_⟩) hHeld ?_
                  rotate_left
                  · (intro w hSw; subst hSw; go_simp; first | with_reducible rfl | skip)
                  try simp only [Act.put, List.setIfInBounds_toArray, List.set_cons_succ, List.set_cons_zero]
                  refine wpAnyH_take (i := 10) (oi := { dst := some 92, op := Op.binOp BinOp.eql 28 (Operand.tmp 87) (Operand.tmp 91) 28, type := 4, pos := "arp.go:128", after := #[{ on := 5, ground := Ground.data }, { on := 9, ground := Ground.data }, { on := 3, ground := Ground.guard }], guard := some (3, true) }) (v := ?_) rfl (by kernel_rfl) (by kernel_rfl) (by kernel_rfl) (fun _ _ _ h => h) (Or.inl ⟨by rfl, ?_⟩) hHeld ?_
                  rotate_left
                  · (intro w hSw; subst hSw; go_simp; first | with_reducible rfl | skip)
                  try simp only [Act.put, List.setIfInBounds_toArray, List.set_cons_succ, List.set_cons_zero]
                  refine wpAnyH_take (i := 11) (oi := { dst := some 93, op := Op.pick (Operand.tmp 85) (Operand.tmp 92) (Operand.const (Value.bool false)), type := 4, pos := "arp.go:128", after := #[{ on := 3, ground := Ground.data }, { on := 10, ground := Ground.data }], guard := none }) (v := ?_) rfl (by kernel_rfl) (by kernel_rfl) (by kernel_rfl) (fun _ _ _ h => h) (Or.inl ⟨by rfl, ?_⟩) hHeld ?_
                  rotate_left
                  · (intro w hSw; subst hSw; go_simp; first | with_reducible rfl | skip)
                  try simp only [Act.put, List.setIfInBounds_toArray, List.set_cons_succ, List.set_cons_zero]
                  refine wpAnyH_done (by kernel_rfl) ?_ _
                  clear hHeld j0 j4 ji
                  have i1 := HQD.out.cells.2.1
                  have i2 := HQD.out.cells.2.2.1
                  have c0 := HCD.out.cells.1
                  have c1' := HCD.out.cells.2.1
                  have hmk := HCD.out.ok.mac
                  have hfmk := HFM.out
                  go_wp2_with (go_at_call 31; refine hold ?_)
                  refine hid ?_
                  refine Calls.mono (carp_calls g sk.mac sk.ip 2 fm fm fi wd HCD.out.lt c0 c1' (by omega) HCD.out.ok.ip (.inr rfl) (by omega) (by omega) HFI.out) ?_
                  rintro eq wq ⟨vq, rfl, hoq, hbq⟩
                  obtain ⟨Aq, nq, cq, rfl⟩ := hoq.form
                  have HOQ := hid hoq; have HBQ := hid hbq
                  obtain ⟨vs, hfo, hfs⟩ := HFD.out
                  have hfn := hfs.len
                  have HFO := hid (hfo.below hbq); have HFS := hid (hfs.below hbq); have HFN := hid hfn
                  have HCQ := hid (HCD.out.below hbq)
                  have HGQ := hid (HGD.out.trans (Grown2.of_below g b hbq))
                  have hsd : w1.heap.size ≤ wd.heap.size := HSD.out
                  clear hoq hbq c0 c1' hfo hfs hfn i1 i2 hmk hfmk
                  go_wp2_with (at_builtin; refine hold ?_)
                  have hbe : Below wq.heap.size wq (wq.alloc (.cells #[.slice Aq nq cq] 31)) := (Below.refl _ _).alloc (Nat.le_refl _) _
                  have hle : OwnV (wq.alloc (.cells #[.slice Aq nq cq] 31)) 0 31 (.slice (some ⟨wq.heap.size, 0, none⟩) 1 1) [.slice Aq nq cq] := OwnV.lit wq 31 0 (Nat.zero_le _) [_] #[_] 1 rfl rfl (by simp [maxLen])
                  obtain ⟨Al, cl, hlv, hx1, hrl, hx2⟩ := hle.rd
                  injection hlv with hl1 hl2 hl3
                  subst hl1
                  refine hid ?_
                  refine wpList_appV rfl _ _ 22 31 (.slice none 0 0) rfl 24 rfl elemF w1.heap.size (.slice none 0 0) vs rfl (HFO.out.below hbe) (some ⟨wq.heap.size, 0, none⟩) 1 1 [.slice Aq nq cq] rfl rfl (by simp) hrl (by simp [Value.oneCell']) (by have := HFN.out; have := HFL.out; simp; omega) (by have := HFN.out; have := HFL.out; simp [maxLen]; omega) (by have := HBQ.out.size; simp; omega) ?_
                  intro v5 wt ho5 hg5 hat5
                  have hbx := below_then HBQ.out hbe
                  have HFT := hid (FrB.more (HFO.out.below hbe) (HFS.out.below hbe) ((HOQ.out.below hbe).base w1.heap.size hsd) ho5 hg5)
                  have hlo : ∀ x, (Value.slice none 0 0).ownBlock = some x → w1.heap.size ≤ x := fun x hx => (HFO.out.lt x hx).1
                  have HCT := hid ((HCQ.out.below hbe).row hg5 hlo H1.out.lt H1.out.map.lt H1.out.sl)
                  have HGT := hid ((HGQ.out.trans (Grown2.of_below g b hbe)).rowV hg5 (fun x hx => by have := hlo x hx; have := HG1.out.size; omega))
                  rw [show etherB fm sk.mac 2054 (arpB 2 sk.mac sk.ip fm fi) = s1.arpF 2 fm fm fi by unfold Ar.arpF; rw [HMK.out.1, HMK.out.2]] at HFT
                  clear hbe hle hl2 hl3 hx1 hx2 hrl ho5 hg5 hat5 hbx hlo
                  go_wp2
                  go_ret2
                  rw [HS.out, HX.out]
                  exact ⟨_, S, _, rfl, HCT.out, fun q hq => .inl hq, HFT.out.frS (fun q hq => ⟨by have := HG1.out.size; omega, fun h => by have := H1.out.sl q h; omega⟩), HGT.out⟩
                · have ht1 : (ti == s1.ip) = false := by simpa using htip
                  rw [show s1.answer ⟨op, fm, fi, tm, ti⟩ = [] from if_neg (fun h => htip h.2)] at HX
                  rw [List.append_nil] at HX
                  refine wpAnyH_take (i := 0) (oi := { dst := some 82, op := Op.fieldAddr 40 (Operand.tmp 4) 0, type := 0, pos := "arp.go:128", after := #[], guard := none }) (v := ?_) rfl (by kernel_rfl) (by kernel_rfl) (by kernel_rfl) (fun _ _ _ h => h) (Or.inl ⟨by rfl, ?_⟩) hHeld ?_
                  rotate_left
                  · (intro w hSw; subst hSw; go_simp; first | with_reducible rfl | skip)
                  try simp only [Act.put, List.setIfInBounds_toArray, List.set_cons_succ, List.set_cons_zero]
                  refine wpAnyH_take (i := 1) (oi := { dst := some 83, op := Op.load 3 (Operand.tmp 82), type := 3, pos := "arp.go:128", after := #[{ on := 0, ground := Ground.data }], guard := none }) (v := ?_) rfl (by kernel_rfl) (by kernel_rfl) (by kernel_rfl) (fun _ _ _ h => h) (Or.inl ⟨by rfl, ?_⟩) hHeld ?_
                  rotate_left
                  · (intro w hSw; subst hSw; go_simp; first | with_reducible rfl | skip)
                  try simp only [Act.put, List.setIfInBounds_toArray, List.set_cons_succ, List.set_cons_zero]
                  refine wpAnyH_take (i := 2) (oi := { dst := some 84, op := Op.binOp BinOp.eql 3 (Operand.tmp 83) (Operand.const (Value.int IntKind.i64 1)) 3, type := 4, pos := "arp.go:128", after := #[{ on := 1, ground := Ground.data }], guard := none }) (v := ?_) rfl (by kernel_rfl) (by kernel_rfl) (by kernel_rfl) (fun _ _ _ h => h) (Or.inl ⟨by rfl, ?_⟩) hHeld ?_
                  rotate_left
                  · (intro w hSw; subst hSw; go_simp; first | with_reducible rfl | skip)
                  try simp only [Act.put, List.setIfInBounds_toArray, List.set_cons_succ, List.set_cons_zero]
                  refine wpAnyH_take (i := 3) (oi := { dst := some 85, op := Op.move (Operand.tmp 84), type := 4, pos := "arp.go:128", after := #[{ on := 2, ground := Ground.data }], guard := none }) (v := ?_) rfl (by kernel_rfl) (by kernel_rfl) (by kernel_rfl) (fun _ _ _ h => h) (Or.inl ⟨by rfl, ?_⟩) hHeld ?_
                  rotate_left
                  · (intro w hSw; subst hSw; go_simp; first | with_reducible rfl | skip)
                  try simp only [Act.put, List.setIfInBounds_toArray, List.set_cons_succ, List.set_cons_zero]
                  refine wpAnyH_take (i := 4) (oi := { dst := some 86, op := Op.fieldAddr 40 (Operand.tmp 4) 4, type := 0, pos := "arp.go:128", after := #[{ on := 3, ground := Ground.guard }], guard := some (3, true) }) (v := ?_) rfl (by kernel_rfl) (by kernel_rfl) (by kernel_rfl) (fun _ _ _ h => h) (Or.inl ⟨by rfl, ?_⟩) hHeld ?_
                  rotate_left
                  · (intro w hSw; subst hSw; go_simp; first | with_reducible rfl | skip)
                  try simp only [Act.put, List.setIfInBounds_toArray, List.set_cons_succ, List.set_cons_zero]
                  refine wpAnyH_take (i := 5) (oi := { dst := some 87, op := Op.load 28 (Operand.tmp 86), type := 28, pos := "arp.go:128", after := #[{ on := 4, ground := Ground.data }, { on := 3, ground := Ground.guard }], guard := some (3, true) }) (v := ?_) rfl (by kernel_rfl) (by kernel_rfl) (by kernel_rfl) (fun _ _ _ h => h) (Or.inl ⟨by rfl, ?_⟩) hHeld ?_
                  rotate_left
                  · (intro w hSw; subst hSw; go_simp; first | with_reducible rfl | skip)
                  try simp only [Act.put, List.setIfInBounds_toArray, List.set_cons_succ, List.set_cons_zero]
                  refine wpAnyH_take (i := 6) (oi := { dst := some 88, op := Op.move (Operand.tmp 0), type := 23, pos := "arp.go:128", after := #[{ on := 3, ground := Ground.guard }], guard := some (3, true) }) (v := ?_) rfl (by kernel_rfl) (by kernel_rfl) (by kernel_rfl) (fun _ _ _ h => h) (Or.inl ⟨by rfl, ?_⟩) hHeld ?_
                  rotate_left
                  · (intro w hSw; subst hSw; go_simp; first | with_reducible rfl | skip)
                  try simp only [Act.put, List.setIfInBounds_toArray, List.set_cons_succ, List.set_cons_zero]
                  refine wpAnyH_take (i := 7) (oi := { dst := some 89, op := Op.nilCheck (Operand.tmp 88), type := 0, pos := "arp.go:128", after := #[{ on := 6, ground := Ground.data }, { on := 3, ground := Ground.guard }], guard := some (3, true) }) (v := ?_) rfl (by kernel_rfl) (by kernel_rfl) (by kernel_rfl) (fun _ _ _ h => h) (Or.inl ⟨by rfl, ?_⟩) hHeld ?_
                  rotate_left
                  · (intro w hSw; subst hSw; go_simp; first | with_reducible rfl | skip)
                  try simp only [Act.put, List.setIfInBounds_toArray, List.set_cons_succ, List.set_cons_zero]
                  refine wpAnyH_take (i := 8) (oi := { dst := some 90, op := Op.fieldAddr 72 (Operand.tmp 89) 1, type := 0, pos := "arp.go:128", after := #[{ on := 7, ground := Ground.data }, { on := 3, ground := Ground.guard }], guard := some (3, true) }) (v := ?_) rfl (by kernel_rfl) (by kernel_rfl) (by kernel_rfl) (fun _ _ _ h => h) (Or.inl ⟨by rfl, ?_⟩) hHeld ?_
                  rotate_left
                  · (intro w hSw; subst hSw; go_simp; first | with_reducible rfl | skip)
                  try simp only [Act.put, List.setIfInBounds_toArray, List.set_cons_succ, List.set_cons_zero]
                  refine wpAnyH_take (i := 9) (oi := { dst := some 91, op := Op.load 28 (Operand.tmp 90), type := 28, pos := "arp.go:128", after := #[{ on := 8, ground := Ground.data }, { on := 3, ground := Ground.guard }], guard := some (3, true) }) (v := ?_) rfl (by kernel_rfl) (by kernel_rfl) (by kernel_rfl) (fun _ _ _ h => h) (Or.inl ⟨by rfl, ?_⟩) hHeld ?_
                  rotate_left
                  · (intro w hSw; subst hSw; go_simp; first | with_reducible rfl | skip)
                  try simp only [Act.put, List.setIfInBounds_toArray, List.set_cons_succ, List.set_cons_zero]
                  refine wpAnyH_take (i := 10) (oi := { dst := some 92, op := Op.binOp BinOp.eql 28 (Operand.tmp 87) (Operand.tmp 91) 28, type := 4, pos := "arp.go:128", after := #[{ on := 5, ground := Ground.data }, { on := 9, ground := Ground.data }, { on := 3, ground := Ground.guard }], guard := some (3, true) }) (v := ?_) rfl (by kernel_rfl) (by kernel_rfl) (by kernel_rfl) (fun _ _ _ h => h) (Or.inl ⟨by rfl, ?_⟩) hHeld ?_
                  rotate_left
                  · (intro w hSw; subst hSw; go_simp; first | with_reducible rfl | skip)
                  try simp only [Act.put, List.setIfInBounds_toArray, List.set_cons_succ, List.set_cons_zero]
                  refine wpAnyH_take (i := 11) (oi := { dst := some 93, op := Op.pick (Operand.tmp 85) (Operand.tmp 92) (Operand.const (Value.bool false)), type := 4, pos := "arp.go:128", after := #[{ on := 3, ground := Ground.data }, { on := 10, ground := Ground.data }], guard := none }) (v := ?_) rfl (by kernel_rfl) (by kernel_rfl) (by kernel_rfl) (fun _ _ _ h => h) (Or.inl ⟨by rfl, ?_⟩) hHeld ?_
                  rotate_left
                  · (intro w hSw; subst hSw; go_simp; first | with_reducible rfl | skip)
                  try simp only [Act.put, List.setIfInBounds_toArray, List.set_cons_succ, List.set_cons_zero]
                  refine wpAnyH_done (by kernel_rfl) ?_ _
                  clear hHeld j0 j4 ji
                  go_wp2
                  go_ret2
                  rw [HS.out, HX.out]
                  exact ⟨_, S, _, rfl, HCD.out, fun q hq => .inl hq, HFD.out.frS (fun q hq => ⟨by have := HG1.out.size; omega, fun h => by have := H1.out.sl q h; omega⟩), HGD.out⟩
              · have ho1 : (op == 1) = false := by simpa using hop1
                rw [show s1.answer ⟨op, fm, fi, tm, ti⟩ = [] from if_neg (fun h => hop1 h.1)] at HX
                rw [List.append_nil] at HX
                refine wpAnyH_take (i := 0) (oi := { dst := some 82, op := Op.fieldAddr 40 (Operand.tmp 4) 0, type := 0, pos := "arp.go:128", after := #[], guard := none }) (v := ?_) rfl (by kernel_rfl) (by kernel_rfl) (by kernel_rfl) (fun _ _ _ h => h) (Or.inl ⟨by rfl, ?_⟩) hHeld ?_
                rotate_left
                · (intro w hSw; subst hSw; go_simp; first | with_reducible rfl | skip)
                try simp only [Act.put, List.setIfInBounds_toArray, List.set_cons_succ, List.set_cons_zero]
                refine wpAnyH_take (i := 1) (oi := { dst := some 83, op := Op.load 3 (Operand.tmp 82), type := 3, pos := "arp.go:128", after := #[{ on := 0, ground := Ground.data }], guard := none }) (v := ?_) rfl (by kernel_rfl) (by kernel_rfl) (by kernel_rfl) (fun _ _ _ h => h) (Or.inl ⟨by rfl, ?_⟩) hHeld ?_
                rotate_left
                · (intro w hSw; subst hSw; go_simp; first | with_reducible rfl | skip)
                try simp only [Act.put, List.setIfInBounds_toArray, List.set_cons_succ, List.set_cons_zero]
                refine wpAnyH_take (i := 2) (oi := { dst := some 84, op := Op.binOp BinOp.eql 3 (Operand.tmp 83) (Operand.const (Value.int IntKind.i64 1)) 3, type := 4, pos := "arp.go:128", after := #[{ on := 1, ground := Ground.data }], guard := none }) (v := ?_) rfl (by kernel_rfl) (by kernel_rfl) (by kernel_rfl) (fun _ _ _ h => h) (Or.inl ⟨by rfl, ?_⟩) hHeld ?_
                rotate_left
                · (intro w hSw; subst hSw; go_simp; first | with_reducible rfl | skip)
                try simp only [Act.put, List.setIfInBounds_toArray, List.set_cons_succ, List.set_cons_zero]
                refine wpAnyH_take (i := 3) (oi := { dst := some 85, op := Op.move (Operand.tmp 84), type := 4, pos := "arp.go:128", after := #[{ on := 2, ground := Ground.data }], guard := none }) (v := ?_) rfl (by kernel_rfl) (by kernel_rfl) (by kernel_rfl) (fun _ _ _ h => h) (Or.inl ⟨by rfl, ?_⟩) hHeld ?_
                rotate_left
                · (intro w hSw; subst hSw; go_simp; first | with_reducible rfl | skip)
                try simp only [Act.put, List.setIfInBounds_toArray, List.set_cons_succ, List.set_cons_zero]
                refine wpAnyH_take (i := 4) (oi := { dst := some 86, op := Op.fieldAddr 40 (Operand.tmp 4) 4, type := 0, pos := "arp.go:128", after := #[{ on := 3, ground := Ground.guard }], guard := some (3, true) }) (v := undef) rfl (by kernel_rfl) (by kernel_rfl) (by kernel_rfl) (fun _ _ _ h => h) (Or.inr ⟨by rfl, rfl⟩) hHeld ?_
                try simp only [Act.put, List.setIfInBounds_toArray, List.set_cons_succ, List.set_cons_zero]
                refine wpAnyH_take (i := 5) (oi := { dst := some 87, op := Op.load 28 (Operand.tmp 86), type := 28, pos := "arp.go:128", after := #[{ on := 4, ground := Ground.data }, { on := 3, ground := Ground.guard }], guard := some (3, true) }) (v := undef) rfl (by kernel_rfl) (by kernel_rfl) (by kernel_rfl) (fun _ _ _ h => h) (Or.inr ⟨by rfl, rfl⟩) hHeld ?_
                try simp only [Act.put, List.setIfInBounds_toArray, List.set_cons_succ, List.set_cons_zero]
                refine wpAnyH_take (i := 6) (oi := { dst := some 88, op := Op.move (Operand.tmp 0), type := 23, pos := "arp.go:128", after := #[{ on := 3, ground := Ground.guard }], guard := some (3, true) }) (v := undef) rfl (by kernel_rfl) (by kernel_rfl) (by kernel_rfl) (fun _ _ _ h => h) (Or.inr ⟨by rfl, rfl⟩) hHeld ?_
                try simp only [Act.put, List.setIfInBounds_toArray, List.set_cons_succ, List.set_cons_zero]
                refine wpAnyH_take (i := 7) (oi := { dst := some 89, op := Op.nilCheck (Operand.tmp 88), type := 0, pos := "arp.go:128", after := #[{ on := 6, ground := Ground.data }, { on := 3, ground := Ground.guard }], guard := some (3, true) }) (v := undef) rfl (by kernel_rfl) (by kernel_rfl) (by kernel_rfl) (fun _ _ _ h => h) (Or.inr ⟨by rfl, rfl⟩) hHeld ?_
                try simp only [Act.put, List.setIfInBounds_toArray, List.set_cons_succ, List.set_cons_zero]
                refine wpAnyH_take (i := 8) (oi := { dst := some 90, op := Op.fieldAddr 72 (Operand.tmp 89) 1, type := 0, pos := "arp.go:128", after := #[{ on := 7, ground := Ground.data }, { on := 3, ground := Ground.guard }], guard := some (3, true) }) (v := undef) rfl (by kernel_rfl) (by kernel_rfl) (by kernel_rfl) (fun _ _ _ h => h) (Or.inr ⟨by rfl, rfl⟩) hHeld ?_
                try simp only [Act.put, List.setIfInBounds_toArray, List.set_cons_succ, List.set_cons_zero]
                refine wpAnyH_take (i := 9) (oi := { dst := some 91, op := Op.load 28 (Operand.tmp 90), type := 28, pos := "arp.go:128", after := #[{ on := 8, ground := Ground.data }, { on := 3, ground := Ground.guard }], guard := some (3, true) }) (v := undef) rfl (by kernel_rfl) (by kernel_rfl) (by kernel_rfl) (fun _ _ _ h => h) (Or.inr ⟨by rfl, rfl⟩) hHeld ?_
                try simp only [Act.put, List.setIfInBounds_toArray, List.set_cons_succ, List.set_cons_zero]
                refine wpAnyH_take (i := 10) (oi := { dst := some 92, op := Op.binOp BinOp.eql 28 (Operand.tmp 87) (Operand.tmp 91) 28, type := 4, pos := "arp.go:128", after := #[{ on := 5, ground := Ground.data }, { on := 9, ground := Ground.data }, { on := 3, ground := Ground.guard }], guard := some (3, true) }) (v := undef) rfl (by kernel_rfl) (by kernel_rfl) (by kernel_rfl) (fun _ _ _ h => h) (Or.inr ⟨by rfl, rfl⟩) hHeld ?_
                try simp only [Act.put, List.setIfInBounds_toArray, List.set_cons_succ, List.set_cons_zero]
                refine wpAnyH_take (i := 11) (oi := { dst := some 93, op := Op.pick (Operand.tmp 85) (Operand.tmp 92) (Operand.const (Value.bool false)), type := 4, pos := "arp.go:128", after := #[{ on := 3, ground := Ground.data }, { on := 10, ground := Ground.data }], guard := none }) (v := ?_) rfl (by kernel_rfl) (by kernel_rfl) (by kernel_rfl) (fun _ _ _ h => h) (Or.inl ⟨by rfl, ?_⟩) hHeld ?_
                rotate_left
                · (intro w hSw; subst hSw; go_simp; first | with_reducible rfl | skip)
                try simp only [Act.put, List.setIfInBounds_toArray, List.set_cons_succ, List.set_cons_zero]
                refine wpAnyH_done (by kernel_rfl) ?_ _
                clear hHeld j0 j4 ji
                go_wp2
                go_ret2
                rw [HS.out, HX.out]
                exact ⟨_, S, _, rfl, HCD.out, fun q hq => .inl hq, HFD.out.frS (fun q hq => ⟨by have := HG1.out.size; omega, fun h => by have := H1.out.sl q h; omega⟩), HGD.out⟩
          · have htip1 : (ti == s1.ip) = false := by simpa using htip
            have HX := hid (show s1.take2 ⟨op, fm, fi, tm, ti⟩ now = (s1, [] ++ s1.answer ⟨op, fm, fi, tm, ti⟩, 0) by
              unfold Ar.take2
              rw [if_neg HNB.out]
              simp [hlk, htip])
            clear hlk HCA
            refine wpAnyH_take (i := 0) (oi := { dst := some 42, op := Op.move (Operand.tmp 11), type := 4, pos := "arp.go:122", after := #[], guard := none }) (v := ?_) rfl (by kernel_rfl) (by kernel_rfl) (by kernel_rfl) (fun _ _ _ h => h) (Or.inl ⟨by rfl, ?_⟩) hHeld ?_
            rotate_left
            · (intro w hSw; obtain ⟨k4, k1⟩ := hSw; go_simp; first | with_reducible rfl | skip)
            try simp only [Act.put, List.setIfInBounds_toArray, List.set_cons_succ, List.set_cons_zero]
            refine wpAnyH_take (i := 1) (oi := { dst := some 43, op := Op.move (Operand.tmp 42), type := 4, pos := "arp.go:122", after := #[{ on := 0, ground := Ground.data }], guard := none }) (v := ?_) rfl (by kernel_rfl) (by kernel_rfl) (by kernel_rfl) (fun _ _ _ h => h) (Or.inl ⟨by rfl, ?_⟩) hHeld ?_
            rotate_left
            · (intro w hSw; obtain ⟨k4, k1⟩ := hSw; go_simp; first | with_reducible rfl | skip)
            try simp only [Act.put, List.setIfInBounds_toArray, List.set_cons_succ, List.set_cons_zero]
            refine wpAnyH_take (i := 2) (oi := { dst := some 44, op := Op.fieldAddr 40 (Operand.tmp 4) 4, type := 0, pos := "arp.go:122", after := #[{ on := 1, ground := Ground.guard }], guard := some (1, false) }) (v := ?_) rfl (by kernel_rfl) (by kernel_rfl) (by kernel_rfl) (fun _ _ _ h => h) (Or.inl ⟨by rfl, ?_⟩) hHeld ?_
            rotate_left
            · (intro w hSw; obtain ⟨k4, k1⟩ := hSw; go_simp; first | with_reducible rfl | skip)
            try simp only [Act.put, List.setIfInBounds_toArray, List.set_cons_succ, List.set_cons_zero]
            refine wpAnyH_take (i := 3) (oi := { dst := some 45, op := Op.load 28 (Operand.tmp 44), type := 28, pos := "arp.go:122", after := #[{ on := 2, ground := Ground.data }, { on := 1, ground := Ground.guard }], guard := some (1, false) }) (v := ?_) rfl (by kernel_rfl) (by kernel_rfl) (by kernel_rfl) (fun _ _ _ h => h) (Or.inl ⟨by rfl, ?_⟩) hHeld ?_
            rotate_left
            · (intro w hSw; obtain ⟨k4, k1⟩ := hSw; go_simp; first | with_reducible rfl | skip)
            try simp only [Act.put, List.setIfInBounds_toArray, List.set_cons_succ, List.set_cons_zero]
            refine wpAnyH_take (i := 4) (oi := { dst := some 46, op := Op.move (Operand.tmp 0), type := 23, pos := "arp.go:122", after := #[{ on := 1, ground := Ground.guard }], guard := some (1, false) }) (v := ?_) rfl (by kernel_rfl) (by kernel_rfl) (by kernel_rfl) (fun _ _ _ h => h) (Or.inl ⟨by rfl, ?_⟩) hHeld ?_
            rotate_left
            · (intro w hSw; obtain ⟨k4, k1⟩ := hSw; go_simp; first | with_reducible rfl | skip)
            try simp only [Act.put, List.setIfInBounds_toArray, List.set_cons_succ, List.set_cons_zero]
            refine wpAnyH_take (i := 5) (oi := { dst := some 47, op := Op.nilCheck (Operand.tmp 46), type := 0, pos := "arp.go:122", after := #[{ on := 4, ground := Ground.data }, { on := 1, ground := Ground.guard }], guard := some (1, false) }) (v := ?_) rfl (by kernel_rfl) (by kernel_rfl) (by kernel_rfl) (fun _ _ _ h => h) (Or.inl ⟨by rfl, ?_⟩) hHeld ?_
            rotate_left
            · (intro w hSw; obtain ⟨k4, k1⟩ := hSw; go_simp; first | with_reducible rfl | skip)
            try simp only [Act.put, List.setIfInBounds_toArray, List.set_cons_succ, List.set_cons_zero]
            refine wpAnyH_take (i := 6) (oi := { dst := some 48, op := Op.fieldAddr 72 (Operand.tmp 47) 1, type := 0, pos := "arp.go:122", after := #[{ on := 5, ground := Ground.data }, { on := 1, ground := Ground.guard }], guard := some (1, false) }) (v := ?_) rfl (by kernel_rfl) (by kernel_rfl) (by kernel_rfl) (fun _ _ _ h => h) (Or.inl ⟨by rfl, ?_⟩) hHeld ?_
            rotate_left
            · (intro w hSw; obtain ⟨k4, k1⟩ := hSw; go_simp; first | with_reducible rfl | skip)
            try simp only [Act.put, List.setIfInBounds_toArray, List.set_cons_succ, List.set_cons_zero]
            refine wpAnyH_take (i := 7) (oi := { dst := some 49, op := Op.load 28 (Operand.tmp 48), type := 28, pos := "arp.go:122", after := #[{ on := 6, ground := Ground.data }, { on := 1, ground := Ground.guard }], guard := some (1, false) }) (v := ?_) rfl (by kernel_rfl) (by kernel_rfl) (by kernel_rfl) (fun _ _ _ h => h) (Or.inl ⟨by rfl, ?_⟩) hHeld ?_
            rotate_left
            · (intro w hSw; obtain ⟨k4, k1⟩ := hSw; go_simp; first | with_reducible rfl | skip)
            try simp only [Act.put, List.setIfInBounds_toArray, List.set_cons_succ, List.set_cons_zero]
            refine wpAnyH_take (i := 8) (oi := { dst := some 50, op := Op.binOp BinOp.eql 28 (Operand.tmp 45) (Operand.tmp 49) 28, type := 4, pos := "arp.go:122", after := #[{ on := 3, ground := Ground.data }, { on := 7, ground := Ground.data }, { on := 1, ground := Ground.guard }], guard := some (1, false) }) (v := ?_) rfl (by kernel_rfl) (by kernel_rfl) (by kernel_rfl) (fun _ _ _ h => h) (Or.inl ⟨by rfl, ?_⟩) hHeld ?_
            rotate_left
            · (intro w hSw; obtain ⟨k4, k1⟩ := hSw; go_simp; first | with_reducible rfl | skip)
            try simp only [Act.put, List.setIfInBounds_toArray, List.set_cons_succ, List.set_cons_zero]
            refine wpAnyH_take (i := 9) (oi := { dst := some 51, op := Op.move (Operand.tmp 50), type := 4, pos := "arp.go:122", after := #[{ on := 8, ground := Ground.data }, { on := 1, ground := Ground.chain }, { on := 1, ground := Ground.guard }], guard := some (1, false) }) (v := ?_) rfl (by kernel_rfl) (by kernel_rfl) (by kernel_rfl) (fun _ _ _ h => h) (Or.inl ⟨by rfl, ?_⟩) hHeld ?_
            rotate_left
            · (intro w hSw; obtain ⟨k4, k1⟩ := hSw; go_simp; first | with_reducible rfl | skip)
            try simp only [Act.put, List.setIfInBounds_toArray, List.set_cons_succ, List.set_cons_zero]
            refine wpAnyH_take (i := 10) (oi := { dst := some 52, op := Op.move (Operand.tmp 0), type := 23, pos := "arp.go:122", after := #[{ on := 9, ground := Ground.guard }], guard := some (9, true) }) (v := undef) rfl (by kernel_rfl) (by kernel_rfl) (by kernel_rfl) (fun _ _ _ h => h) (Or.inr ⟨by rfl, rfl⟩) hHeld ?_
            try simp only [Act.put, List.setIfInBounds_toArray, List.set_cons_succ, List.set_cons_zero]
            refine wpAnyH_take (i := 11) (oi := { dst := some 53, op := Op.call { callee := Callee.value (Operand.func 29), args := #[Operand.tmp 52], argTypes := #[23] }, type := 4, pos := "arp.go:122", after := #[{ on := 10, ground := Ground.data }, { on := 9, ground := Ground.chain }, { on := 9, ground := Ground.guard }], guard := some (9, true) }) (v := undef) rfl (by kernel_rfl) (by kernel_rfl) (by kernel_rfl) (fun _ _ _ h => h) (Or.inr ⟨by rfl, rfl⟩) hHeld ?_
            try simp only [Act.put, List.setIfInBounds_toArray, List.set_cons_succ, List.set_cons_zero]
            refine wpAnyH_take (i := 12) (oi := { dst := some 54, op := Op.pick (Operand.tmp 51) (Operand.tmp 53) (Operand.const (Value.bool false)), type := 4, pos := "arp.go:122", after := #[{ on := 9, ground := Ground.data }, { on := 11, ground := Ground.data }, { on := 1, ground := Ground.guard }], guard := some (1, false) }) (v := ?_) rfl (by kernel_rfl) (by kernel_rfl) (by kernel_rfl) (fun _ _ _ h => h) (Or.inl ⟨by rfl, ?_⟩) hHeld ?_
            rotate_left
            · (intro w hSw; obtain ⟨k4, k1⟩ := hSw; go_simp; first | with_reducible rfl | skip)
            try simp only [Act.put, List.setIfInBounds_toArray, List.set_cons_succ, List.set_cons_zero]
            refine wpAnyH_take (i := 13) (oi := { dst := some 55, op := Op.pick (Operand.tmp 43) (Operand.const (Value.bool true)) (Operand.tmp 54), type := 4, pos := "arp.go:122", after := #[{ on := 1, ground := Ground.data }, { on := 12, ground := Ground.data }], guard := none }) (v := ?_) rfl (by kernel_rfl) (by kernel_rfl) (by kernel_rfl) (fun _ _ _ h => h) (Or.inl ⟨by rfl, ?_⟩) hHeld ?_
            rotate_left
            · (intro w hSw; obtain ⟨k4, k1⟩ := hSw; go_simp; first | with_reducible rfl | skip)
            try simp only [Act.put, List.setIfInBounds_toArray, List.set_cons_succ, List.set_cons_zero]
            refine wpAnyH_done (by kernel_rfl) ?_ _
            clear hHeld htip htip1 j4 ji
            obtain ⟨sk, hsk⟩ : ∃ x, x = s1 := ⟨_, rfl⟩
            have HMK : Hid (sk.mac = s1.mac ∧ sk.ip = s1.ip) := hid (by rw [hsk]; exact ⟨rfl, rfl⟩)
            have HCK : Hid (CSt S w5 g b M sk) := hid (by rw [hsk]; exact HC5.out)
            rw [show (s1, ([] : List (List Int)) ++ s1.answer ⟨op, fm, fi, tm, ti⟩, (0 : Int)) = (sk, [] ++ s1.answer ⟨op, fm, fi, tm, ti⟩, 0) by rw [hsk]] at HX
            have HFK := hid (FrB.nil w1.heap.size w5)
            have HGK := HG5; have HQK := HQ5
            have HSD := HS5
            have HFL : Hid (([] : List (List Int)).length ≤ 8) := hid (by simp)
            obtain ⟨F, hF⟩ : ∃ F : List (List Int), F = [] := ⟨_, rfl⟩
            rw [← hF] at HX HFK HFL
            clear hF hsk HC5 HG5 HQ5 HS5 HE5 HW5
            go_wp2_with fail
            have j0 : w5.drew.cell? ⟨w.heap.size, 0, none⟩ = some (.int .i64 op) := HQK.out.cells.1
            have j4 : w5.drew.cell? ⟨w.heap.size, 4, none⟩ = some (.int .u32 ti) := HQK.out.cells.2.2.2
            have ji : w5.drew.cell? ⟨g, 1, none⟩ = some (.int .u32 sk.ip) := HCK.out.cells.2.1
            rw [HMK.out.2] at ji
            have HCD := hid (HCK.out.below (w' := w5.drew) (Below.refl _ _).drew)
            have HFD := hid (HFK.out.below (w' := w5.drew) (Below.refl _ _).drew)
            have HGD := hid (HGK.out.trans (Grown2.of_below (w' := w5.drew) g b (Below.refl _ _).drew))
            have HQD := hid (HQK.out.below (w' := w5.drew) (Below.refl _ _).drew)
            have HSD := hid (show w1.heap.size ≤ w5.drew.heap.size from HSD.out)
            clear HCK HFK HGK HQK
            refine wp_region_held_drew (S := fun W => W = w5.drew) (by kernel_rfl) rfl (fun hHeld => ?_)
            generalize w5.drew = wd at *
            by_cases hop1 : op = 1
            · have ho1 : (op == 1) = true := by rw [hop1]; rfl
              by_cases htip : ti = s1.ip
              · have ht1 : (ti == s1.ip) = true := by rw [htip]; simp
                rw [show s1.answer ⟨op, fm, fi, tm, ti⟩ = [s1.arpF 2 fm fm fi] from if_pos ⟨hop1, htip⟩] at HX
                refine wpAnyH_take (i := 0) (oi := { dst := some 82, op := Op.fieldAddr 40 (Operand.tmp 4) 0, type := 0, pos := "arp.go:128", after := #[], guard := none }) (v := ?_) rfl (by kernel_rfl) (by kernel_rfl) (by kernel_rfl) (fun _ _ _ h => h) (Or.inl ⟨by rfl, ?_⟩) hHeld ?_
                rotate_left
                · (intro w hSw; subst hSw; go_simp; first | with_reducible rfl | skip)
                try simp only [Act.put, List.setIfInBounds_toArray, List.set_cons_succ, List.set_cons_zero]
                refine wpAnyH_take (i := 1) (oi := { dst := some 83, op := Op.load 3 (Operand.tmp 82), type := 3, pos := "arp.go:128", after := #[{ on := 0, ground := Ground.data }], guard := none }) (v := ?_) rfl (by kernel_rfl) (by kernel_rfl) (by kernel_rfl) (fun _ _ _ h => h) (Or.inl ⟨by rfl, ?_⟩) hHeld ?_
                rotate_left
                · (intro w hSw; subst hSw; go_simp; first | with_reducible rfl | skip)
                try simp only [Act.put, List.setIfInBounds_toArray, List.set_cons_succ, List.set_cons_zero]
                refine wpAnyH_take (i := 2) (oi := { dst := some 84, op := Op.binOp BinOp.eql 3 (Operand.tmp 83) (Operand.const (Value.int IntKind.i64 1)) 3, type := 4, pos := "arp.go:128", after := #[{ on := 1, ground := Ground.data }], guard := none }) (v := ?_) rfl (by kernel_rfl) (by kernel_rfl) (by kernel_rfl) (fun _ _ _ h => h) (Or.inl ⟨by rfl, ?_⟩) hHeld ?_
                rotate_left
                · (intro w hSw; subst hSw; go_simp; first | with_reducible rfl | skip)
                try simp only [Act.put, List.setIfInBounds_toArray, List.set_cons_succ, List.set_cons_zero]
                refine wpAnyH_take (i := 3) (oi := { dst := some 85, op := Op.move (Operand.tmp 84), type := 4, pos := "arp.go:128", after := #[{ on := 2, ground := Ground.data }], guard := none }) (v := ?_) rfl (by kernel_rfl) (by kernel_rfl) (by kernel_rfl) (fun _ _ _ h => h) (Or.inl ⟨by rfl, ?_⟩) hHeld ?_
                rotate_left
                · (intro w hSw; subst hSw; go_simp; first | with_reducible rfl | skip)
                try simp only [Act.put, List.setIfInBounds_toArray, List.set_cons_succ, List.set_cons_zero]
                refine wpAnyH_take (i := 4) (oi := { dst := some 86, op := Op.fieldAddr 40 (Operand.tmp 4) 4, type := 0, pos := "arp.go:128", after := #[{ on := 3, ground := Ground.guard }], guard := some (3, true) }) (v := ?_) rfl (by kernel_rfl) (by kernel_rfl) (by kernel_rfl) (fun _ _ _ h => h) (Or.inl ⟨by rfl, ?_⟩) hHeld ?_
                rotate_left
                · (intro w hSw; subst hSw; go_simp; first | with_reducible rfl | skip)
                try simp only [Act.put, List.setIfInBounds_toArray, List.set_cons_succ, List.set_cons_zero]
                refine wpAnyH_take (i := 5) (oi := { dst := some 87, op := Op.load 28 (Operand.tmp 86), type := 28, pos := "arp.go:128", after := #[{ on := 4, ground := Ground.data }, { on := 3, ground := Ground.guard }], guard := some (3, true) }) (v := ?_) rfl (by kernel_rfl) (by kernel_rfl) (by kernel_rfl) (fun _ _ _ h => h) (Or.inl ⟨by rfl, ?_⟩) hHeld ?_
                rotate_left
                · (intro w hSw; subst hSw; go_simp; first | with_reducible rfl | skip)
                try simp only [Act.put, List.setIfInBounds_toArray, List.set_cons_succ, List.set_cons_zero]
                refine wpAnyH_take (i := 6) (oi := { dst := some 88, op := Op.move (Operand.tmp 0), type := 23, pos := "arp.go:128", after := #[{ on := 3, ground := Ground.guard }], guard := some (3, true) }) (v := ?_) rfl (by kernel_rfl) (by kernel_rfl) (by kernel_rfl) (fun _ _ _ h => h) (Or.inl ⟨by rfl, ?_⟩) hHeld ?_
                rotate_left
                · (intro w hSw; subst hSw; go_simp; first | with_reducible rfl | skip)
                try simp only [Act.put, List.setIfInBounds_toArray, List.set_cons_succ, List.set_cons_zero]
                refine wpAnyH_take (i := 7) (oi := { dst := some 89, op := Op.nilCheck (Operand.tmp 88), type := 0, pos := "arp.go:128", after := #[{ on := 6, ground := Ground.data }, { on := 3, ground := Ground.guard }], guard := some (3, true) }) (v := ?_) rfl (by kernel_rfl) (by kernel_rfl) (by kernel_rfl) (fun _ _ _ h => h) (Or.inl ⟨by rfl, ?_⟩) hHeld ?_
                rotate_left
                · (intro w hSw; subst hSw; go_simp; first | with_reducible rfl | skip)
                try simp only [Act.put, List.setIfInBounds_toArray, List.set_cons_succ, List.set_cons_zero]
                refine wpAnyH_take (i := 8) (oi := { dst := some 90, op := Op.fieldAddr 72 (Operand.tmp 89) 1, type := 0, pos := "arp.go:128", after := #[{ on := 7, ground := Ground.data }, { on := 3, ground := Ground.guard }], guard := some (3, true) }) (v := ?_) rfl (by kernel_rfl) (by kernel_rfl) (by kernel_rfl) (fun _ _ _ h => h) (Or.inl ⟨by rfl, ?_⟩) hHeld ?_
                rotate_left
                · (intro w hSw; subst hSw; go_simp; first | with_reducible rfl | skip)
                try simp only [Act.put, List.setIfInBounds_toArray, List.set_cons_succ, List.set_cons_zero]
                refine wpAnyH_take (i := 9) (oi := { dst := some 91, op := Op.load 28 (Operand.tmp 90), type := 28, pos := "arp.go:128", after := #[{ on := 8, ground := Ground.data }, { on := 3, ground := Ground.guard }], guard := some (3, true) }) (v := ?_) rfl (by kernel_rfl) (by kernel_rfl) (by kernel_rfl) (fun _ _ _ h => h) (Or.inl ⟨by rfl, ?_⟩) hHeld ?_
                rotate_left
                · (intro w hSw; subst hSw; go_simp; first | with_reducible rfl | skip)
                try simp only [Act.put, List.setIfInBounds_toArray, List.set_cons_succ, List.set_cons_zero]
                refine wpAnyH_take (i := 10) (oi := { dst := some 92, op := Op.binOp BinOp.eql 28 (Operand.tmp 87) (Operand.tmp 91) 28, type := 4, pos := "arp.go:128", after := #[{ on := 5, ground := Ground.data }, { on := 9, ground := Ground.data }, { on := 3, ground := Ground.guard }], guard := some (3, true) }) (v := ?_) rfl (by kernel_rfl) (by kernel_rfl) (by kernel_rfl) (fun _ _ _ h => h) (Or.inl ⟨by rfl, ?_⟩) hHeld ?_
                rotate_left
                · (intro w hSw; subst hSw; go_simp; first | with_reducible rfl | skip)
                try simp only [Act.put, List.setIfInBounds_toArray, List.set_cons_succ, List.set_cons_zero]
                refine wpAnyH_take (i := 11) (oi := { dst := some 93, op := Op.pick (Operand.tmp 85) (Operand.tmp 92) (Operand.const (Value.bool false)), type := 4, pos := "arp.go:128", after := #[{ on := 3, ground := Ground.data }, { on := 10, ground := Ground.data }], guard := none }) (v := ?_) rfl (by kernel_rfl) (by kernel_rfl) (by kernel_rfl) (fun _ _ _ h => h) (Or.inl ⟨by rfl, ?_⟩) hHeld ?_
                rotate_left
                · (intro w hSw; subst hSw; go_simp; first | with_reducible rfl | skip)
                try simp only [Act.put, List.setIfInBounds_toArray, List.set_cons_succ, List.set_cons_zero]
                refine wpAnyH_done (by kernel_rfl) ?_ _
                clear hHeld j0 j4 ji
                have i1 := HQD.out.cells.2.1
                have i2 := HQD.out.cells.2.2.1
                have c0 := HCD.out.cells.1
                have c1' := HCD.out.cells.2.1
                have hmk := HCD.out.ok.mac
                have hfmk := HFM.out
                go_wp2_with (go_at_call 31; refine hold ?_)
                refine hid ?_
                refine Calls.mono (carp_calls g sk.mac sk.ip 2 fm fm fi wd HCD.out.lt c0 c1' (by omega) HCD.out.ok.ip (.inr rfl) (by omega) (by omega) HFI.out) ?_
                rintro eq wq ⟨vq, rfl, hoq, hbq⟩
                obtain ⟨Aq, nq, cq, rfl⟩ := hoq.form
                have HOQ := hid hoq; have HBQ := hid hbq
                obtain ⟨vs, hfo, hfs⟩ := HFD.out
                have hfn := hfs.len
                have HFO := hid (hfo.below hbq); have HFS := hid (hfs.below hbq); have HFN := hid hfn
                have HCQ := hid (HCD.out.below hbq)
                have HGQ := hid (HGD.out.trans (Grown2.of_below g b hbq))
                have hsd : w1.heap.size ≤ wd.heap.size := HSD.out
                clear hoq hbq c0 c1' hfo hfs hfn i1 i2 hmk hfmk
                go_wp2_with (at_builtin; refine hold ?_)
                have hbe : Below wq.heap.size wq (wq.alloc (.cells #[.slice Aq nq cq] 31)) := (Below.refl _ _).alloc (Nat.le_refl _) _
                have hle : OwnV (wq.alloc (.cells #[.slice Aq nq cq] 31)) 0 31 (.slice (some ⟨wq.heap.size, 0, none⟩) 1 1) [.slice Aq nq cq] := OwnV.lit wq 31 0 (Nat.zero_le _) [_] #[_] 1 rfl rfl (by simp [maxLen])
                obtain ⟨Al, cl, hlv, hx1, hrl, hx2⟩ := hle.rd
                injection hlv with hl1 hl2 hl3
                subst hl1
                refine hid ?_
                refine wpList_appV rfl _ _ 22 31 (.slice none 0 0) rfl 24 rfl elemF w1.heap.size (.slice none 0 0) vs rfl (HFO.out.below hbe) (some ⟨wq.heap.size, 0, none⟩) 1 1 [.slice Aq nq cq] rfl rfl (by simp) hrl (by simp [Value.oneCell']) (by have := HFN.out; have := HFL.out; simp; omega) (by have := HFN.out; have := HFL.out; simp [maxLen]; omega) (by have := HBQ.out.size; simp; omega) ?_
                intro v5 wt ho5 hg5 hat5
                have hbx := below_then HBQ.out hbe
                have HFT := hid (FrB.more (HFO.out.below hbe) (HFS.out.below hbe) ((HOQ.out.below hbe).base w1.heap.size hsd) ho5 hg5)
                have hlo : ∀ x, (Value.slice none 0 0).ownBlock = some x → w1.heap.size ≤ x := fun x hx => (HFO.out.lt x hx).1
                have HCT := hid ((HCQ.out.below hbe).row hg5 hlo H1.out.lt H1.out.map.lt H1.out.sl)
                have HGT := hid ((HGQ.out.trans (Grown2.of_below g b hbe)).rowV hg5 (fun x hx => by have := hlo x hx; have := HG1.out.size; omega))
                rw [show etherB fm sk.mac 2054 (arpB 2 sk.mac sk.ip fm fi) = s1.arpF 2 fm fm fi by unfold Ar.arpF; rw [HMK.out.1, HMK.out.2]] at HFT
                clear hbe hle hl2 hl3 hx1 hx2 hrl ho5 hg5 hat5 hbx hlo
                go_wp2
                go_ret2
                rw [HS.out, HX.out]
                exact ⟨_, S, _, rfl, HCT.out, fun q hq => .inl hq, HFT.out.frS (fun q hq => ⟨by have := HG1.out.size; omega, fun h => by have := H1.out.sl q h; omega⟩), HGT.out⟩
              · have ht1 : (ti == s1.ip) = false := by simpa using htip
                rw [show s1.answer ⟨op, fm, fi, tm, ti⟩ = [] from if_neg (fun h => htip h.2)] at HX
                rw [List.append_nil] at HX
                refine wpAnyH_take (i := 0) (oi := { dst := some 82, op := Op.fieldAddr 40 (Operand.tmp 4) 0, type := 0, pos := "arp.go:128", after := #[], guard := none }) (v := ?_) rfl (by kernel_rfl) (by kernel_rfl) (by kernel_rfl) (fun _ _ _ h => h) (Or.inl ⟨by rfl, ?_⟩) hHeld ?_
                rotate_left
                · (intro w hSw; subst hSw; go_simp; first | with_reducible rfl | skip)
                try simp only [Act.put, List.setIfInBounds_toArray, List.set_cons_succ, List.set_cons_zero]
                refine wpAnyH_take (i := 1) (oi := { dst := some 83, op := Op.load 3 (Operand.tmp 82), type := 3, pos := "arp.go:128", after := #[{ on := 0, ground := Ground.data }], guard := none }) (v := ?_) rfl (by kernel_rfl) (by kernel_rfl) (by kernel_rfl) (fun _ _ _ h => h) (Or.inl ⟨by rfl, ?_⟩) hHeld ?_
                rotate_left
                · (intro w hSw; subst hSw; go_simp; first | with_reducible rfl | skip)
                try simp only [Act.put, List.setIfInBounds_toArray, List.set_cons_succ, List.set_cons_zero]
                refine wpAnyH_take (i := 2) (oi := { dst := some 84, op := Op.binOp BinOp.eql 3 (Operand.tmp 83) (Operand.const (Value.int IntKind.i64 1)) 3, type := 4, pos := "arp.go:128", after := #[{ on := 1, ground := Ground.data }], guard := none }) (v := ?_) rfl (by kernel_rfl) (by kernel_rfl) (by kernel_rfl) (fun _ _ _ h => h) (Or.inl ⟨by rfl, ?_⟩) hHeld ?_
                rotate_left
                · (intro w hSw; subst hSw; go_simp; first | with_reducible rfl | skip)
                try simp only [Act.put, List.setIfInBounds_toArray, List.set_cons_succ, List.set_cons_zero]
                refine wpAnyH_take (i := 3) (oi := { dst := some 85, op := Op.move (Operand.tmp 84), type := 4, pos := "arp.go:128", after := #[{ on := 2, ground := Ground.data }], guard := none }) (v := ?_) rfl (by kernel_rfl) (by kernel_rfl) (by kernel_rfl) (fun _ _ _ h => h) (Or.inl ⟨by rfl, ?_⟩) hHeld ?_
                rotate_left
                · (intro w hSw; subst hSw; go_simp; first | with_reducible rfl | skip)
                try simp only [Act.put, List.setIfInBounds_toArray, List.set_cons_succ, List.set_cons_zero]
                refine wpAnyH_take (i := 4) (oi := { dst := some 86, op := Op.fieldAddr 40 (Operand.tmp 4) 4, type := 0, pos := "arp.go:128", after := #[{ on := 3, ground := Ground.guard }], guard := some (3, true) }) (v := ?_) rfl (by kernel_rfl) (by kernel_rfl) (by kernel_rfl) (fun _ _ _ h => h) (Or.inl ⟨by rfl, ?_⟩) hHeld ?_
                rotate_left
                · (intro w hSw; subst hSw; go_simp; first | with_reducible rfl | skip)
                try simp only [Act.put, List.setIfInBounds_toArray, List.set_cons_succ, List.set_cons_zero]
                refine wpAnyH_take (i := 5) (oi := { dst := some 87, op := Op.load 28 (Operand.tmp 86), type := 28, pos := "arp.go:128", after := #[{ on := 4, ground := Ground.data }, { on := 3, ground := Ground.guard }], guard := some (3, true) }) (v := ?_) rfl (by kernel_rfl) (by kernel_rfl) (by kernel_rfl) (fun _ _ _ h => h) (Or.inl ⟨by rfl, ?_⟩) hHeld ?_
                rotate_left
                · (intro w hSw; subst hSw; go_simp; first | with_reducible rfl | skip)
                try simp only [Act.put, List.setIfInBounds_toArray, List.set_cons_succ, List.set_cons_zero]
                refine wpAnyH_take (i := 6) (oi := { dst := some 88, op := Op.move (Operand.tmp 0), type := 23, pos := "arp.go:128", after := #[{ on := 3, ground := Ground.guard }], guard := some (3, true) }) (v := ?_) rfl (by kernel_rfl) (by kernel_rfl) (by kernel_rfl) (fun _ _ _ h => h) (Or.inl ⟨by rfl, ?_⟩) hHeld ?_
                rotate_left
                · (intro w hSw; subst hSw; go_simp; first | with_reducible rfl | skip)
                try simp only [Act.put, List.setIfInBounds_toArray, List.set_cons_succ, List.set_cons_zero]
                refine wpAnyH_take (i := 7) (oi := { dst := some 89, op := Op.nilCheck (Operand.tmp 88), type := 0, pos := "arp.go:128", after := #[{ on := 6, ground := Ground.data }, { on := 3, ground := Ground.guard }], guard := some (3, true) }) (v := ?_) rfl (by kernel_rfl) (by kernel_rfl) (by kernel_rfl) (fun _ _ _ h => h) (Or.inl ⟨by rfl, ?_⟩) hHeld ?_
                rotate_left
                · (intro w hSw; subst hSw; go_simp; first | with_reducible rfl | skip)
                try simp only [Act.put, List.setIfInBounds_toArray, List.set_cons_succ, List.set_cons_zero]
                refine wpAnyH_take (i := 8) (oi := { dst := some 90, op := Op.fieldAddr 72 (Operand.tmp 89) 1, type := 0, pos := "arp.go:128", after := #[{ on := 7, ground := Ground.data }, { on := 3, ground := Ground.guard }], guard := some (3, true) }) (v := ?_) rfl (by kernel_rfl) (by kernel_rfl) (by kernel_rfl) (fun _ _ _ h => h) (Or.inl ⟨by rfl, ?_⟩) hHeld ?_
                rotate_left
                · (intro w hSw; subst hSw; go_simp; first | with_reducible rfl | skip)
                try simp only [Act.put, List.setIfInBounds_toArray, List.set_cons_succ, List.set_cons_zero]
                refine wpAnyH_take (i := 9) (oi := { dst := some 91, op := Op.load 28 (Operand.tmp 90), type := 28, pos := "arp.go:128", after := #[{ on := 8, ground := Ground.data }, { on := 3, ground := Ground.guard }], guard := some (3, true) }) (v := ?_) rfl (by kernel_rfl) (by kernel_rfl) (by kernel_rfl) (fun _ _ _ h => h) (Or.inl ⟨by rfl, ?_⟩) hHeld ?_
                rotate_left
                · (intro w hSw; subst hSw; go_simp; first | with_reducible rfl | skip)
                try simp only [Act.put, List.setIfInBounds_toArray, List.set_cons_succ, List.set_cons_zero]
                refine wpAnyH_take (i := 10) (oi := { dst := some 92, op := Op.binOp BinOp.eql 28 (Operand.tmp 87) (Operand.tmp 91) 28, type := 4, pos := "arp.go:128", after := #[{ on := 5, ground := Ground.data }, { on := 9, ground := Ground.data }, { on := 3, ground := Ground.guard }], guard := some (3, true) }) (v := ?_) rfl (by kernel_rfl) (by kernel_rfl) (by kernel_rfl) (fun _ _ _ h => h) (Or.inl ⟨by rfl, ?_⟩) hHeld ?_
                rotate_left
                · (intro w hSw; subst hSw; go_simp; first | with_reducible rfl | skip)
                try simp only [Act.put, List.setIfInBounds_toArray, List.set_cons_succ, List.set_cons_zero]
                refine wpAnyH_take (i := 11) (oi := { dst := some 93, op := Op.pick (Operand.tmp 85) (Operand.tmp 92) (Operand.const (Value.bool false)), type := 4, pos := "arp.go:128", after := #[{ on := 3, ground := Ground.data }, { on := 10, ground := Ground.data }], guard := none }) (v := ?_) rfl (by kernel_rfl) (by kernel_rfl) (by kernel_rfl) (fun _ _ _ h => h) (Or.inl ⟨by rfl, ?_⟩) hHeld ?_
                rotate_left
                · (intro w hSw; subst hSw; go_simp; first | with_reducible rfl | skip)
                try simp only [Act.put, List.setIfInBounds_toArray, List.set_cons_succ, List.set_cons_zero]
                refine wpAnyH_done (by kernel_rfl) ?_ _
                clear hHeld j0 j4 ji
                go_wp2
                go_ret2
                rw [HS.out, HX.out]
                exact ⟨_, S, _, rfl, HCD.out, fun q hq => .inl hq, HFD.out.frS (fun q hq => ⟨by have := HG1.out.size; omega, fun h => by have := H1.out.sl q h; omega⟩), HGD.out⟩
            · have ho1 : (op == 1) = false := by simpa using hop1
              rw [show s1.answer ⟨op, fm, fi, tm, ti⟩ = [] from if_neg (fun h => hop1 h.1)] at HX
              rw [List.append_nil] at HX
              refine wpAnyH_take (i := 0) (oi := { dst := some 82, op := Op.fieldAddr 40 (Operand.tmp 4) 0, type := 0, pos := "arp.go:128", after := #[], guard := none }) (v := ?_) rfl (by kernel_rfl) (by kernel_rfl) (by kernel_rfl) (fun _ _ _ h => h) (Or.inl ⟨by rfl, ?_⟩) hHeld ?_
              rotate_left
              · (intro w hSw; subst hSw; go_simp; first | with_reducible rfl | skip)
              try simp only [Act.put, List.setIfInBounds_toArray, List.set_cons_succ, List.set_cons_zero]
              refine wpAnyH_take (i := 1) (oi := { dst := some 83, op := Op.load 3 (Operand.tmp 82), type := 3, pos := "arp.go:128", after := #[{ on := 0, ground := Ground.data }], guard := none }) (v := ?_) rfl (by kernel_rfl) (by kernel_rfl) (by kernel_rfl) (fun _ _ _ h => h) (Or.inl ⟨by rfl, ?_⟩) hHeld ?_
              rotate_left
              · (intro w hSw; subst hSw; go_simp; first | with_reducible rfl | skip)
              try simp only [Act.put, List.setIfInBounds_toArray, List.set_cons_succ, List.set_cons_zero]
              refine wpAnyH_take (i := 2) (oi := { dst := some 84, op := Op.binOp BinOp.eql 3 (Operand.tmp 83) (Operand.const (Value.int IntKind.i64 1)) 3, type := 4, pos := "arp.go:128", after := #[{ on := 1, ground := Ground.data }], guard := none }) (v := ?_) rfl (by kernel_rfl) (by kernel_rfl) (by kernel_rfl) (fun _ _ _ h => h) (Or.inl ⟨by rfl, ?_⟩) hHeld ?_
              rotate_left
              · (intro w hSw; subst hSw; go_simp; first | with_reducible rfl | skip)
              try simp only [Act.put, List.setIfInBounds_toArray, List.set_cons_succ, List.set_cons_zero]
              refine wpAnyH_take (i := 3) (oi := { dst := some 85, op := Op.move (Operand.tmp 84), type := 4, pos := "arp.go:128", after := #[{ on := 2, ground := Ground.data }], guard := none }) (v := ?_) rfl (by kernel_rfl) (by kernel_rfl) (by kernel_rfl) (fun _ _ _ h => h) (Or.inl ⟨by rfl, ?_⟩) hHeld ?_
              rotate_left
              · (intro w hSw; subst hSw; go_simp; first | with_reducible rfl | skip)
              try simp only [Act.put, List.setIfInBounds_toArray, List.set_cons_succ, List.set_cons_zero]
              refine wpAnyH_take (i := 4) (oi := { dst := some 86, op := Op.fieldAddr 40 (Operand.tmp 4) 4, type := 0, pos := "arp.go:128", after := #[{ on := 3, ground := Ground.guard }], guard := some (3, true) }) (v := undef) rfl (by kernel_rfl) (by kernel_rfl) (by kernel_rfl) (fun _ _ _ h => h) (Or.inr ⟨by rfl, rfl⟩) hHeld ?_
              try simp only [Act.put, List.setIfInBounds_toArray, List.set_cons_succ, List.set_cons_zero]
              refine wpAnyH_take (i := 5) (oi := { dst := some 87, op := Op.load 28 (Operand.tmp 86), type := 28, pos := "arp.go:128", after := #[{ on := 4, ground := Ground.data }, { on := 3, ground := Ground.guard }], guard := some (3, true) }) (v := undef) rfl (by kernel_rfl) (by kernel_rfl) (by kernel_rfl) (fun _ _ _ h => h) (Or.inr ⟨by rfl, rfl⟩) hHeld ?_
              try simp only [Act.put, List.setIfInBounds_toArray, List.set_cons_succ, List.set_cons_zero]
              refine wpAnyH_take (i := 6) (oi := { dst := some 88, op := Op.move (Operand.tmp 0), type := 23, pos := "arp.go:128", after := #[{ on := 3, ground := Ground.guard }], guard := some (3, true) }) (v := undef) rfl (by kernel_rfl) (by kernel_rfl) (by kernel_rfl) (fun _ _ _ h => h) (Or.inr ⟨by rfl, rfl⟩) hHeld ?_
              try simp only [Act.put, List.setIfInBounds_toArray, List.set_cons_succ, List.set_cons_zero]
              refine wpAnyH_take (i := 7) (oi := { dst := some 89, op := Op.nilCheck (Operand.tmp 88), type := 0, pos := "arp.go:128", after := #[{ on := 6, ground := Ground.data }, { on := 3, ground := Ground.guard }], guard := some (3, true) }) (v := undef) rfl (by kernel_rfl) (by kernel_rfl) (by kernel_rfl) (fun _ _ _ h => h) (Or.inr ⟨by rfl, rfl⟩) hHeld ?_
              try simp only [Act.put, List.setIfInBounds_toArray, List.set_cons_succ, List.set_cons_zero]
              refine wpAnyH_take (i := 8) (oi := { dst := some 90, op := Op.fieldAddr 72 (Operand.tmp 89) 1, type := 0, pos := "arp.go:128", after := #[{ on := 7, ground := Ground.data }, { on := 3, ground := Ground.guard }], guard := some (3, true) }) (v := undef) rfl (by kernel_rfl) (by kernel_rfl) (by kernel_rfl) (fun _ _ _ h => h) (Or.inr ⟨by rfl, rfl⟩) hHeld ?_
              try simp only [Act.put, List.setIfInBounds_toArray, List.set_cons_succ, List.set_cons_zero]
              refine wpAnyH_take (i := 9) (oi := { dst := some 91, op := Op.load 28 (Operand.tmp 90), type := 28, pos := "arp.go:128", after := #[{ on := 8, ground := Ground.data }, { on := 3, ground := Ground.guard }], guard := some (3, true) }) (v := undef) rfl (by kernel_rfl) (by kernel_rfl) (by kernel_rfl) (fun _ _ _ h => h) (Or.inr ⟨by rfl, rfl⟩) hHeld ?_
              try simp only [Act.put, List.setIfInBounds_toArray, List.set_cons_succ, List.set_cons_zero]
              refine wpAnyH_take (i := 10) (oi := { dst := some 92, op := Op.binOp BinOp.eql 28 (Operand.tmp 87) (Operand.tmp 91) 28, type := 4, pos := "arp.go:128", after := #[{ on := 5, ground := Ground.data }, { on := 9, ground := Ground.data }, { on := 3, ground := Ground.guard }], guard := some (3, true) }) (v := undef) rfl (by kernel_rfl) (by kernel_rfl) (by kernel_rfl) (fun _ _ _ h => h) (Or.inr ⟨by rfl, rfl⟩) hHeld ?_
              try simp only [Act.put, List.setIfInBounds_toArray, List.set_cons_succ, List.set_cons_zero]
              refine wpAnyH_take (i := 11) (oi := { dst := some 93, op := Op.pick (Operand.tmp 85) (Operand.tmp 92) (Operand.const (Value.bool false)), type := 4, pos := "arp.go:128", after := #[{ on := 3, ground := Ground.data }, { on := 10, ground := Ground.data }], guard := none }) (v := ?_) rfl (by kernel_rfl) (by kernel_rfl) (by kernel_rfl) (fun _ _ _ h => h) (Or.inl ⟨by rfl, ?_⟩) hHeld ?_
              rotate_left
              · (intro w hSw; subst hSw; go_simp; first | with_reducible rfl | skip)
              try simp only [Act.put, List.setIfInBounds_toArray, List.set_cons_succ, List.set_cons_zero]
              refine wpAnyH_done (by kernel_rfl) ?_ _
              clear hHeld j0 j4 ji
              go_wp2
              go_ret2
              rw [HS.out, HX.out]
              exact ⟨_, S, _, rfl, HCD.out, fun q hq => .inl hq, HFD.out.frS (fun q hq => ⟨by have := HG1.out.size; omega, fun h => by have := H1.out.sl q h; omega⟩), HGD.out⟩
  · obtain rfl := hbad hw
    have HX := hid (show s.take ⟨op, fm, fi, tm, ti⟩ now = (s, [], s.wrong now) by unfold Ar.take; rw [if_pos hw])
    have HC := hid (H.out.below HBA.out)
    have HG := hid (Grown2.of_below g b HBA.out)
    clear hbad hgood HB
    go_wp2
    go_ret2
    exact Done.bad HX.out HC.out HG.out
end Go.Proofs.Ytebfoigbiekeiaa
