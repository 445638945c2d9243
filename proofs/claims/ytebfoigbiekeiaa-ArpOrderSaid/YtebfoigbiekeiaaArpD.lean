/-
  LAYER 9, WALKS: a cache's room.
-/
import Derived.Test.YtebfoigbiekeiaaArpC
import Derived.Laws.CopyOwn
set_option linter.unusedVariables false
set_option linter.unusedSimpArgs false
namespace Go.Proofs.Ytebfoigbiekeiaa
open Go Go.RowKit

def oldStep (best : Option (Int × Int)) (p : Int × En) : Option (Int × Int) := if (p.2.known && better best p.2.at_) = true then some (p.1, p.2.at_) else best
theorem oldest_snoc (p : Int × En) : ∀ (l : List (Int × En)) (best : Option (Int × Int)), oldestOf best (l ++ [p]) = oldStep (oldestOf best l) p
  | [], best => by
    obtain ⟨k, e⟩ := p
    rfl
  | (k, e) :: r, best => by
    simp only [List.cons_append, oldestOf]
    exact oldest_snoc p r _
theorem oldest_mem {k a : Int} : ∀ (l : List (Int × En)) (best : Option (Int × Int)), oldestOf best l = some (k, a) → best = some (k, a) ∨ ∃ e, (k, e) ∈ l ∧ e.at_ = a ∧ e.known = true
  | [], best, h => .inl h
  | (k', e) :: r, best, h => by
    simp only [oldestOf] at h
    rcases oldest_mem r _ h with h1 | ⟨e', h1, h2⟩
    · split at h1
      · rename_i hc
        simp only [Option.some.injEq, Prod.mk.injEq] at h1
        obtain ⟨rfl, rfl⟩ := h1
        exact .inr ⟨e, List.mem_cons_self .., rfl, by simp at hc; exact hc.1⟩
      · exact .inl h1
    · exact .inr ⟨e', List.mem_cons_of_mem _ h1, h2⟩
theorem field2 (W : World) (a b c d e : Value) : (Instr.field 78 (.agg #[a, b, c, d, e]) 2).run Try.prog W = .ok c W := by kernel_rfl
/-- What 'room' leaves. -/
def Roomed (S : Nat → Prop) (g b : Nat) (s : Ar) (w : World) (e : Ending) (w' : World) : Prop :=
  ∃ M', e = .returned (.bool s.room.2) ∧ CSt S w' g b M' s.room.1 ∧ w.grownBy w' (some b)
theorem Ar.Ok.del {s : Ar} (h : s.Ok) (k : Int) : ({ s with m := delK k s.m } : Ar).Ok :=
  ⟨h.mac, h.ip, h.last, h.rise.del, fun p hp => h.key p (mem_delK.1 hp).1, by
    have h1 := delK_len (k := k) s.m h.rise
    have := h.few
    show (delK k s.m).length ≤ 8
    omega, fun p hp => h.en p (mem_delK.1 hp).1⟩
theorem room_small {s : Ar} (h : s.m.length < 8) : s.room = (s, true) := by unfold Ar.room; rw [if_pos h]
theorem room_none {s : Ar} (h : ¬ s.m.length < 8) (ho : oldestOf none s.m = none) : s.room = (s, false) := by unfold Ar.room; rw [if_neg h, ho]
theorem room_some {s : Ar} (h : ¬ s.m.length < 8) {k a : Int} (ho : oldestOf none s.m = some (k, a)) : s.room = ({ s with m := delK k s.m }, true) := by unfold Ar.room; rw [if_neg h, ho]
def bestK (best : Option (Int × Int)) : Int := match best with | none => 0 | some (k, _) => k
set_option maxHeartbeats 12800000 in
set_option maxRecDepth 100000 in
theorem room_calls (S : Nat → Prop) (g b : Nat) (M : List (Int × Value)) (s : Ar) (w : World) (h : CSt S w g b M s) :
    Calls Try.prog 29 #[.pointer (some ⟨g, 0, none⟩)] w (Roomed S g b s w) := by
  have c3 := h.cells.2.2.2.1
  have hml : M.length = s.m.length := h.ent.len
  have H := hid h
  clear h
  go_enter Try.func29, Try.ntmps29
  go_wp2_with (with_reducible refine hold_op (o := ⟨some 12, _, _, _, _, _⟩) ?_)
  refine hid ?_
  refine BigFrame.wpList_want rfl fun K hK => wp_mlen _ 70 28 78 rfl Try.underlying70 b M H.out.map rfl (hK _ _ ?_)
  simp only [Act.put, List.setIfInBounds_toArray, List.set_cons_succ, List.set_cons_zero]
  by_cases h8 : s.m.length < 8
  · have hlt : (M.length : Int) < 8 := by omega
    have hlt' : M.length < 8 := by omega
    have HR := hid (room_small h8)
    clear h8 c3 hml
    go_wp2
    go_ret
    exact ⟨M, by rw [HR.out]; rfl, by rw [HR.out]; exact H.out, World.grownBy.refl _ _⟩
  · have hlt : ¬ (M.length : Int) < 8 := by omega
    have hlt' : ¬ M.length < 8 := by omega
    have hn : M.length ≤ 12 := by have := H.out.ok.few; omega
    have HN8 := hid h8
    clear h8
    go_wp2_with (go_at_call 34; refine hold ?_)
    refine hid ?_
    refine Calls.mono (csorted_calls g b M hn w c3 H.out.map) ?_
    rintro e w1 ⟨hb1, v, rfl, ho⟩
    have hkl : (keysOf M).length = M.length := by simp [keysOf]
    obtain ⟨A1, cc, rfl, _⟩ := ho.rd (by omega)
    have HB1 := hid hb1; have HO1 := hid ho; have HKL := hid hkl
    rw [hkl] at HO1 ⊢
    obtain ⟨n, hnn⟩ : ∃ n, n = M.length := ⟨_, rfl⟩
    rw [← hnn] at HO1 hn hlt hlt' HKL ⊢
    have HNN := hid hnn
    clear hb1 ho hkl hnn c3 hml hlt hlt'
    go_wp2_with fail
    go_loopw [3, 4, 17] (fun old fnd i w' => ∃ (j : Nat) (best : Option (Int × Int)), j ≤ n ∧ i = .int .i64 j ∧ best = oldestOf none (s.m.take j) ∧ old = .int .u32 (bestK best) ∧ fnd = .bool best.isSome ∧ Below w1.heap.size w1 w') (fun _ _ i _ => n - (intOf i).toNat)
    case atStart => exact ⟨0, none, by omega, rfl, by simp [oldestOf], rfl, rfl, Below.refl _ _⟩
    case round =>
      obtain ⟨j, best, hj, rfl, hbest, rfl, rfl, hbl⟩ := hrel
      have HBE := hid hbest
      have HBL := hid hbl
      have HCW := hid ((H.out.below HB1.out).below hbl)
      have HOW := hid (show Own wr w.heap.size 28 .u32 (.slice A1 n cc) (keysOf M) from (World.ownsRow.kept HO1.out (grown_below (row := none) hbl) (by cases (Value.slice A1 n cc).ownBlock <;> simp)))
      clear hbest hbl
      have hj0 : (0 : Int) ≤ (j : Int) := by omega
      by_cases hlt : j < n
      · have hj1 : (j : Int) < (n : Int) := by omega
        have hjm : j < s.m.length := by rw [← H.out.ent.len, ← HNN.out]; exact hlt
        obtain ⟨kj, ej, hsj⟩ : ∃ k e, s.m[j]'hjm = (k, e) := ⟨_, _, rfl⟩
        have hmem : (kj, ej) ∈ s.m := by rw [← hsj]; exact List.getElem_mem hjm
        have hkr := H.out.ok.key _ hmem
        have hkj : (keysOf M).getD j 0 = kj := by
          have h1 : keysOf M = s.m.map (·.1) := H.out.ent.keys
          rw [h1]
          simp [List.getD_eq_getElem?_getD, hjm, hsj]
        have HNX : Hid (oldestOf none (s.m.take (j + 1)) = oldStep best (kj, ej)) := hid (by
          rw [HBE.out, List.take_succ_eq_append_getElem hjm, hsj]
          exact oldest_snoc _ _ _)
        obtain ⟨v, e', hv, he', hen⟩ : ∃ v e, lookK kj M = some v ∧ lookK kj s.m = some e ∧ EnS S wr v e := by
          rcases HCW.out.ent.look (x := kj) with ⟨_, h2⟩ | h2
          · rw [lookK_of_mem H.out.ok.rise hmem] at h2; cases h2
          · exact h2
        obtain rfl : e' = ej := by
          have h1 := lookK_of_mem H.out.ok.rise hmem
          have h2 : lookK kj s.m = some e' := he'
          rw [h1] at h2; injection h2 with h2; exact h2.symm
        obtain ⟨A2, n2, c2, rfl, _⟩ := hen
        obtain ⟨A4, c4, e4, _, hR4, hz4⟩ := HOW.out.rd (by have := HKL.out; omega)
        obtain ⟨q, oq, hq, hql⟩ := hR4.form j (by have := HKL.out; omega)
        injection e4 with e5 e6 e7
        subst e5
        subst hq
        obtain rfl : oq = 0 := (hz4 q oq rfl).2
        have cx := HOW.out.cell j (by have := HKL.out; omega)
        rw [hkj] at cx
        have c3 := HCW.out.cells.2.2.2.1
        have HLK := hid hv; have HKR := hid hkr
        obtain ⟨knw, mc, att, trs, wt⟩ := e'
        simp only at HNX HLK ⊢
        clear hR4 hz4 e6 e7 hv hkr hkj hmem hsj he' hql hjm
        go_wp2_with (with_reducible refine hold_op (o := ⟨some 26, _, _, _, _, _⟩) ?_)
        refine hid ?_
        refine BigFrame.wpList_want rfl fun K hK => wp_mlook1 _ _ 70 28 78 rfl Try.underlying28 Try.underlying70 (zeroEn wr) b M HCW.out.map rfl kj rfl HKR.out (hK _ _ ?_)
        rw [HLK.out]
        simp only [Option.getD_some, Act.put, List.setIfInBounds_toArray, List.set_cons_succ, List.set_cons_zero]
        go_wp2_with (with_reducible refine hold_op (o := ⟨none, _, _, _, _, _⟩) ?_)
        have hO1 : (wr.alloc (.cells #[.bool false, .int .u64 0, .int .i64 0, .int .i64 0, .slice none 0 0] 78)).heap[wr.heap.size]? = some (.cells #[.bool false, .int .u64 0, .int .i64 0, .int .i64 0, .slice none 0 0] 78 (0, 0)) := heap_alloc_new _ _
        have hP1 : Below wr.heap.size wr (wr.alloc (.cells #[.bool false, .int .u64 0, .int .i64 0, .int .i64 0, .slice none 0 0] 78)) := (Below.refl _ _).alloc (Nat.le_refl _) _
        generalize wr.alloc (.cells #[.bool false, .int .u64 0, .int .i64 0, .int .i64 0, .slice none 0 0] 78) = wb at *
        refine hid ?_
        refine wpList_store_row rfl 78 (.tmp 7) (.tmp 26) rfl wr.heap.size #[.bool knw, .int .u64 mc, .int .i64 att, .int .i64 trs, .slice A2 n2 c2] rfl rfl 78 _ hO1 (by kernel_rfl) rfl (by kernel_rfl) ?_
        have hW := setRow_heap wb wr.heap.size _ #[.bool knw, .int .u64 mc, .int .i64 att, .int .i64 trs, .slice A2 n2 c2] 78 _ hO1
        have hBW := below_setRow hP1 (Nat.le_refl _) #[.bool knw, .int .u64 mc, .int .i64 att, .int .i64 trs, .slice A2 n2 c2]
        generalize wb.setRow wr.heap.size #[.bool knw, .int .u64 mc, .int .i64 att, .int .i64 trs, .slice A2 n2 c2] = w2 at *
        have HBL2 := hid (below_then HBL.out hBW)
        have hc2 := HCW.out.below hBW
        have c0 : w2.cell? ⟨wr.heap.size, 0, none⟩ = some (.bool knw) := cellOf hW rfl
        have ca : w2.cell? ⟨wr.heap.size, 2, none⟩ = some (.int .i64 att) := cellOf hW rfl
        have cm := hc2.cells.2.2.2.1
        have HC2 := hid hc2
        clear hO1 hP1 hW hBW hc2 cx c3
        dsimp only [Act.put]
        go_wp2_with fail
        have d0 : w2.drew.cell? ⟨wr.heap.size, 0, none⟩ = some (.bool knw) := c0
        have da : w2.drew.cell? ⟨wr.heap.size, 2, none⟩ = some (.int .i64 att) := ca
        have dm : w2.drew.cell? ⟨g, 3, none⟩ = some (.map (some b)) := cm
        have HBD : Hid (Below w1.heap.size w1 w2.drew) := hid HBL2.out.drew
        have HCD : Hid (CSt S w2.drew g b M s) := hid (HC2.out.below (Below.refl _ _).drew)
        refine wp_region_held_drew (S := fun W => W = w2.drew) (by kernel_rfl) rfl (fun hHeld => ?_)
        generalize w2.drew = wd at *
        clear c0 ca cm HBL2 HC2
        cases knw with
        | false =>
          have HST : Hid (oldStep best (kj, ⟨false, mc, att, trs, wt⟩) = best) := hid (by simp [oldStep])
          refine wpAnyH_take (i := 0) (oi := { dst := some 27, op := Op.fieldAddr 78 (Operand.tmp 7) 0, type := 0, pos := "arp.go:77", after := #[], guard := none }) (v := ?_) rfl (by kernel_rfl) (by kernel_rfl) (by kernel_rfl) (fun _ _ _ h => h) (Or.inl ⟨by rfl, ?_⟩) hHeld ?_
          rotate_left
          · (intro w hSw; subst hSw; go_simp; first | with_reducible rfl | (rw [hf2]; rfl) | skip)
          try simp only [Act.put, List.setIfInBounds_toArray, List.set_cons_succ, List.set_cons_zero]
          refine wpAnyH_take (i := 1) (oi := { dst := some 28, op := Op.load 4 (Operand.tmp 27), type := 4, pos := "arp.go:77", after := #[{ on := 0, ground := Ground.data }], guard := none }) (v := ?_) rfl (by kernel_rfl) (by kernel_rfl) (by kernel_rfl) (fun _ _ _ h => h) (Or.inl ⟨by rfl, ?_⟩) hHeld ?_
          rotate_left
          · (intro w hSw; subst hSw; go_simp; first | with_reducible rfl | (rw [hf2]; rfl) | skip)
          try simp only [Act.put, List.setIfInBounds_toArray, List.set_cons_succ, List.set_cons_zero]
          refine wpAnyH_take (i := 2) (oi := { dst := some 29, op := Op.move (Operand.tmp 28), type := 4, pos := "arp.go:77", after := #[{ on := 1, ground := Ground.data }], guard := none }) (v := ?_) rfl (by kernel_rfl) (by kernel_rfl) (by kernel_rfl) (fun _ _ _ h => h) (Or.inl ⟨by rfl, ?_⟩) hHeld ?_
          rotate_left
          · (intro w hSw; subst hSw; go_simp; first | with_reducible rfl | (rw [hf2]; rfl) | skip)
          try simp only [Act.put, List.setIfInBounds_toArray, List.set_cons_succ, List.set_cons_zero]
          refine wpAnyH_take (i := 3) (oi := { dst := some 30, op := Op.move (Operand.tmp 4), type := 4, pos := "arp.go:77", after := #[{ on := 2, ground := Ground.guard }], guard := some (2, true) }) (v := undef) rfl (by kernel_rfl) (by kernel_rfl) (by kernel_rfl) (fun _ _ _ h => h) (Or.inr ⟨by rfl, rfl⟩) hHeld ?_
          try simp only [Act.put, List.setIfInBounds_toArray, List.set_cons_succ, List.set_cons_zero]
          refine wpAnyH_take (i := 4) (oi := { dst := some 31, op := Op.unOp UnOp.not 4 (Operand.tmp 30), type := 4, pos := "arp.go:77", after := #[{ on := 3, ground := Ground.data }, { on := 2, ground := Ground.guard }], guard := some (2, true) }) (v := undef) rfl (by kernel_rfl) (by kernel_rfl) (by kernel_rfl) (fun _ _ _ h => h) (Or.inr ⟨by rfl, rfl⟩) hHeld ?_
          try simp only [Act.put, List.setIfInBounds_toArray, List.set_cons_succ, List.set_cons_zero]
          refine wpAnyH_take (i := 5) (oi := { dst := some 32, op := Op.move (Operand.tmp 31), type := 4, pos := "arp.go:77", after := #[{ on := 4, ground := Ground.data }, { on := 2, ground := Ground.chain }, { on := 2, ground := Ground.guard }], guard := some (2, true) }) (v := undef) rfl (by kernel_rfl) (by kernel_rfl) (by kernel_rfl) (fun _ _ _ h => h) (Or.inr ⟨by rfl, rfl⟩) hHeld ?_
          try simp only [Act.put, List.setIfInBounds_toArray, List.set_cons_succ, List.set_cons_zero]
          refine wpAnyH_take (i := 6) (oi := { dst := some 33, op := Op.fieldAddr 78 (Operand.tmp 7) 2, type := 0, pos := "arp.go:77", after := #[{ on := 5, ground := Ground.guard }], guard := some (5, false) }) (v := undef) rfl (by kernel_rfl) (by kernel_rfl) (by kernel_rfl) (fun _ _ _ h => h) (Or.inr ⟨by rfl, rfl⟩) hHeld ?_
          try simp only [Act.put, List.setIfInBounds_toArray, List.set_cons_succ, List.set_cons_zero]
          refine wpAnyH_take (i := 7) (oi := { dst := some 34, op := Op.load 3 (Operand.tmp 33), type := 3, pos := "arp.go:77", after := #[{ on := 6, ground := Ground.data }, { on := 5, ground := Ground.guard }], guard := some (5, false) }) (v := undef) rfl (by kernel_rfl) (by kernel_rfl) (by kernel_rfl) (fun _ _ _ h => h) (Or.inr ⟨by rfl, rfl⟩) hHeld ?_
          try simp only [Act.put, List.setIfInBounds_toArray, List.set_cons_succ, List.set_cons_zero]
          refine wpAnyH_take (i := 8) (oi := { dst := some 35, op := Op.move (Operand.tmp 0), type := 23, pos := "arp.go:77", after := #[{ on := 5, ground := Ground.guard }], guard := some (5, false) }) (v := undef) rfl (by kernel_rfl) (by kernel_rfl) (by kernel_rfl) (fun _ _ _ h => h) (Or.inr ⟨by rfl, rfl⟩) hHeld ?_
          try simp only [Act.put, List.setIfInBounds_toArray, List.set_cons_succ, List.set_cons_zero]
          refine wpAnyH_take (i := 9) (oi := { dst := some 36, op := Op.nilCheck (Operand.tmp 35), type := 0, pos := "arp.go:77", after := #[{ on := 8, ground := Ground.data }, { on := 5, ground := Ground.guard }], guard := some (5, false) }) (v := undef) rfl (by kernel_rfl) (by kernel_rfl) (by kernel_rfl) (fun _ _ _ h => h) (Or.inr ⟨by rfl, rfl⟩) hHeld ?_
          try simp only [Act.put, List.setIfInBounds_toArray, List.set_cons_succ, List.set_cons_zero]
          refine wpAnyH_take (i := 10) (oi := { dst := some 37, op := Op.fieldAddr 72 (Operand.tmp 36) 3, type := 0, pos := "arp.go:77", after := #[{ on := 9, ground := Ground.data }, { on := 5, ground := Ground.guard }], guard := some (5, false) }) (v := undef) rfl (by kernel_rfl) (by kernel_rfl) (by kernel_rfl) (fun _ _ _ h => h) (Or.inr ⟨by rfl, rfl⟩) hHeld ?_
          try simp only [Act.put, List.setIfInBounds_toArray, List.set_cons_succ, List.set_cons_zero]
          refine wpAnyH_take (i := 11) (oi := { dst := some 38, op := Op.load 70 (Operand.tmp 37), type := 70, pos := "arp.go:77", after := #[{ on := 10, ground := Ground.data }, { on := 5, ground := Ground.guard }], guard := some (5, false) }) (v := undef) rfl (by kernel_rfl) (by kernel_rfl) (by kernel_rfl) (fun _ _ _ h => h) (Or.inr ⟨by rfl, rfl⟩) hHeld ?_
          try simp only [Act.put, List.setIfInBounds_toArray, List.set_cons_succ, List.set_cons_zero]
          refine wpAnyH_take (i := 12) (oi := { dst := some 39, op := Op.move (Operand.tmp 3), type := 28, pos := "arp.go:77", after := #[{ on := 5, ground := Ground.guard }], guard := some (5, false) }) (v := undef) rfl (by kernel_rfl) (by kernel_rfl) (by kernel_rfl) (fun _ _ _ h => h) (Or.inr ⟨by rfl, rfl⟩) hHeld ?_
          try simp only [Act.put, List.setIfInBounds_toArray, List.set_cons_succ, List.set_cons_zero]
          refine wpAnyH_take (i := 13) (oi := { dst := some 40, op := Op.lookup 70 (Operand.tmp 38) (Operand.tmp 39) false, type := 78, pos := "arp.go:77", after := #[{ on := 11, ground := Ground.data }, { on := 12, ground := Ground.data }, { on := 5, ground := Ground.guard }], guard := some (5, false) }) (v := undef) rfl (by kernel_rfl) (by kernel_rfl) (by kernel_rfl) (fun _ _ _ h => h) (Or.inr ⟨by rfl, rfl⟩) hHeld ?_
          try simp only [Act.put, List.setIfInBounds_toArray, List.set_cons_succ, List.set_cons_zero]
          refine wpAnyH_take (i := 14) (oi := { dst := some 41, op := Op.field 78 (Operand.tmp 40) 2, type := 3, pos := "arp.go:77", after := #[{ on := 13, ground := Ground.data }, { on := 5, ground := Ground.guard }], guard := some (5, false) }) (v := undef) rfl (by kernel_rfl) (by kernel_rfl) (by kernel_rfl) (fun _ _ _ h => h) (Or.inr ⟨by rfl, rfl⟩) hHeld ?_
          try simp only [Act.put, List.setIfInBounds_toArray, List.set_cons_succ, List.set_cons_zero]
          refine wpAnyH_take (i := 15) (oi := { dst := some 42, op := Op.binOp BinOp.lss 3 (Operand.tmp 34) (Operand.tmp 41) 3, type := 4, pos := "arp.go:77", after := #[{ on := 7, ground := Ground.data }, { on := 14, ground := Ground.data }, { on := 5, ground := Ground.guard }], guard := some (5, false) }) (v := undef) rfl (by kernel_rfl) (by kernel_rfl) (by kernel_rfl) (fun _ _ _ h => h) (Or.inr ⟨by rfl, rfl⟩) hHeld ?_
          try simp only [Act.put, List.setIfInBounds_toArray, List.set_cons_succ, List.set_cons_zero]
          refine wpAnyH_take (i := 16) (oi := { dst := some 43, op := Op.pick (Operand.tmp 32) (Operand.const (Value.bool true)) (Operand.tmp 42), type := 4, pos := "arp.go:77", after := #[{ on := 5, ground := Ground.data }, { on := 15, ground := Ground.data }, { on := 2, ground := Ground.guard }], guard := some (2, true) }) (v := undef) rfl (by kernel_rfl) (by kernel_rfl) (by kernel_rfl) (fun _ _ _ h => h) (Or.inr ⟨by rfl, rfl⟩) hHeld ?_
          try simp only [Act.put, List.setIfInBounds_toArray, List.set_cons_succ, List.set_cons_zero]
          refine wpAnyH_take (i := 17) (oi := { dst := some 44, op := Op.pick (Operand.tmp 29) (Operand.tmp 43) (Operand.const (Value.bool false)), type := 4, pos := "arp.go:77", after := #[{ on := 2, ground := Ground.data }, { on := 16, ground := Ground.data }], guard := none }) (v := ?_) rfl (by kernel_rfl) (by kernel_rfl) (by kernel_rfl) (fun _ _ _ h => h) (Or.inl ⟨by rfl, ?_⟩) hHeld ?_
          rotate_left
          · (intro w hSw; subst hSw; go_simp; first | with_reducible rfl | (rw [hf2]; rfl) | skip)
          try simp only [Act.put, List.setIfInBounds_toArray, List.set_cons_succ, List.set_cons_zero]
          refine wpAnyH_done (by kernel_rfl) ?_ _
          clear hHeld d0 da dm
          go_wp2
          go_roundw
          case rel => exact ⟨j + 1, _, by omega, by go_num, (HNX.out.trans HST.out).symm, rfl, rfl, HBD.out⟩
          case measure => simp [intOf]; omega
        | true =>
          cases best with
          | none =>
            have HST : Hid (oldStep none (kj, ⟨true, mc, att, trs, wt⟩) = some (kj, att)) := hid (by simp [oldStep, better])
            refine wpAnyH_take (i := 0) (oi := { dst := some 27, op := Op.fieldAddr 78 (Operand.tmp 7) 0, type := 0, pos := "arp.go:77", after := #[], guard := none }) (v := ?_) rfl (by kernel_rfl) (by kernel_rfl) (by kernel_rfl) (fun _ _ _ h => h) (Or.inl ⟨by rfl, ?_⟩) hHeld ?_
            rotate_left
            · (intro w hSw; subst hSw; go_simp; first | with_reducible rfl | (rw [hf2]; rfl) | skip)
            try simp only [Act.put, List.setIfInBounds_toArray, List.set_cons_succ, List.set_cons_zero]
            refine wpAnyH_take (i := 1) (oi := { dst := some 28, op := Op.load 4 (Operand.tmp 27), type := 4, pos := "arp.go:77", after := #[{ on := 0, ground := Ground.data }], guard := none }) (v := ?_) rfl (by kernel_rfl) (by kernel_rfl) (by kernel_rfl) (fun _ _ _ h => h) (Or.inl ⟨by rfl, ?_⟩) hHeld ?_
            rotate_left
            · (intro w hSw; subst hSw; go_simp; first | with_reducible rfl | (rw [hf2]; rfl) | skip)
            try simp only [Act.put, List.setIfInBounds_toArray, List.set_cons_succ, List.set_cons_zero]
            refine wpAnyH_take (i := 2) (oi := { dst := some 29, op := Op.move (Operand.tmp 28), type := 4, pos := "arp.go:77", after := #[{ on := 1, ground := Ground.data }], guard := none }) (v := ?_) rfl (by kernel_rfl) (by kernel_rfl) (by kernel_rfl) (fun _ _ _ h => h) (Or.inl ⟨by rfl, ?_⟩) hHeld ?_
            rotate_left
            · (intro w hSw; subst hSw; go_simp; first | with_reducible rfl | (rw [hf2]; rfl) | skip)
            try simp only [Act.put, List.setIfInBounds_toArray, List.set_cons_succ, List.set_cons_zero]
            refine wpAnyH_take (i := 3) (oi := { dst := some 30, op := Op.move (Operand.tmp 4), type := 4, pos := "arp.go:77", after := #[{ on := 2, ground := Ground.guard }], guard := some (2, true) }) (v := ?_) rfl (by kernel_rfl) (by kernel_rfl) (by kernel_rfl) (fun _ _ _ h => h) (Or.inl ⟨by rfl, ?_⟩) hHeld ?_
            rotate_left
            · (intro w hSw; subst hSw; go_simp; first | with_reducible rfl | (rw [hf2]; rfl) | skip)
            try simp only [Act.put, List.setIfInBounds_toArray, List.set_cons_succ, List.set_cons_zero]
            refine wpAnyH_take (i := 4) (oi := { dst := some 31, op := Op.unOp UnOp.not 4 (Operand.tmp 30), type := 4, pos := "arp.go:77", after := #[{ on := 3, ground := Ground.data }, { on := 2, ground := Ground.guard }], guard := some (2, true) }) (v := ?_) rfl (by kernel_rfl) (by kernel_rfl) (by kernel_rfl) (fun _ _ _ h => h) (Or.inl ⟨by rfl, ?_⟩) hHeld ?_
            rotate_left
            · (intro w hSw; subst hSw; go_simp; first | with_reducible rfl | (rw [hf2]; rfl) | skip)
            try simp only [Act.put, List.setIfInBounds_toArray, List.set_cons_succ, List.set_cons_zero]
            refine wpAnyH_take (i := 5) (oi := { dst := some 32, op := Op.move (Operand.tmp 31), type := 4, pos := "arp.go:77", after := #[{ on := 4, ground := Ground.data }, { on := 2, ground := Ground.chain }, { on := 2, ground := Ground.guard }], guard := some (2, true) }) (v := ?_) rfl (by kernel_rfl) (by kernel_rfl) (by kernel_rfl) (fun _ _ _ h => h) (Or.inl ⟨by rfl, ?_⟩) hHeld ?_
            rotate_left
            · (intro w hSw; subst hSw; go_simp; first | with_reducible rfl | (rw [hf2]; rfl) | skip)
            try simp only [Act.put, List.setIfInBounds_toArray, List.set_cons_succ, List.set_cons_zero]
            refine wpAnyH_take (i := 6) (oi := { dst := some 33, op := Op.fieldAddr 78 (Operand.tmp 7) 2, type := 0, pos := "arp.go:77", after := #[{ on := 5, ground := Ground.guard }], guard := some (5, false) }) (v := undef) rfl (by kernel_rfl) (by kernel_rfl) (by kernel_rfl) (fun _ _ _ h => h) (Or.inr ⟨by rfl, rfl⟩) hHeld ?_
            try simp only [Act.put, List.setIfInBounds_toArray, List.set_cons_succ, List.set_cons_zero]
            refine wpAnyH_take (i := 7) (oi := { dst := some 34, op := Op.load 3 (Operand.tmp 33), type := 3, pos := "arp.go:77", after := #[{ on := 6, ground := Ground.data }, { on := 5, ground := Ground.guard }], guard := some (5, false) }) (v := undef) rfl (by kernel_rfl) (by kernel_rfl) (by kernel_rfl) (fun _ _ _ h => h) (Or.inr ⟨by rfl, rfl⟩) hHeld ?_
            try simp only [Act.put, List.setIfInBounds_toArray, List.set_cons_succ, List.set_cons_zero]
            refine wpAnyH_take (i := 8) (oi := { dst := some 35, op := Op.move (Operand.tmp 0), type := 23, pos := "arp.go:77", after := #[{ on := 5, ground := Ground.guard }], guard := some (5, false) }) (v := undef) rfl (by kernel_rfl) (by kernel_rfl) (by kernel_rfl) (fun _ _ _ h => h) (Or.inr ⟨by rfl, rfl⟩) hHeld ?_
            try simp only [Act.put, List.setIfInBounds_toArray, List.set_cons_succ, List.set_cons_zero]
            refine wpAnyH_take (i := 9) (oi := { dst := some 36, op := Op.nilCheck (Operand.tmp 35), type := 0, pos := "arp.go:77", after := #[{ on := 8, ground := Ground.data }, { on := 5, ground := Ground.guard }], guard := some (5, false) }) (v := undef) rfl (by kernel_rfl) (by kernel_rfl) (by kernel_rfl) (fun _ _ _ h => h) (Or.inr ⟨by rfl, rfl⟩) hHeld ?_
            try simp only [Act.put, List.setIfInBounds_toArray, List.set_cons_succ, List.set_cons_zero]
            refine wpAnyH_take (i := 10) (oi := { dst := some 37, op := Op.fieldAddr 72 (Operand.tmp 36) 3, type := 0, pos := "arp.go:77", after := #[{ on := 9, ground := Ground.data }, { on := 5, ground := Ground.guard }], guard := some (5, false) }) (v := undef) rfl (by kernel_rfl) (by kernel_rfl) (by kernel_rfl) (fun _ _ _ h => h) (Or.inr ⟨by rfl, rfl⟩) hHeld ?_
            try simp only [Act.put, List.setIfInBounds_toArray, List.set_cons_succ, List.set_cons_zero]
            refine wpAnyH_take (i := 11) (oi := { dst := some 38, op := Op.load 70 (Operand.tmp 37), type := 70, pos := "arp.go:77", after := #[{ on := 10, ground := Ground.data }, { on := 5, ground := Ground.guard }], guard := some (5, false) }) (v := undef) rfl (by kernel_rfl) (by kernel_rfl) (by kernel_rfl) (fun _ _ _ h => h) (Or.inr ⟨by rfl, rfl⟩) hHeld ?_
            try simp only [Act.put, List.setIfInBounds_toArray, List.set_cons_succ, List.set_cons_zero]
            refine wpAnyH_take (i := 12) (oi := { dst := some 39, op := Op.move (Operand.tmp 3), type := 28, pos := "arp.go:77", after := #[{ on := 5, ground := Ground.guard }], guard := some (5, false) }) (v := undef) rfl (by kernel_rfl) (by kernel_rfl) (by kernel_rfl) (fun _ _ _ h => h) (Or.inr ⟨by rfl, rfl⟩) hHeld ?_
            try simp only [Act.put, List.setIfInBounds_toArray, List.set_cons_succ, List.set_cons_zero]
            refine wpAnyH_take (i := 13) (oi := { dst := some 40, op := Op.lookup 70 (Operand.tmp 38) (Operand.tmp 39) false, type := 78, pos := "arp.go:77", after := #[{ on := 11, ground := Ground.data }, { on := 12, ground := Ground.data }, { on := 5, ground := Ground.guard }], guard := some (5, false) }) (v := undef) rfl (by kernel_rfl) (by kernel_rfl) (by kernel_rfl) (fun _ _ _ h => h) (Or.inr ⟨by rfl, rfl⟩) hHeld ?_
            try simp only [Act.put, List.setIfInBounds_toArray, List.set_cons_succ, List.set_cons_zero]
            refine wpAnyH_take (i := 14) (oi := { dst := some 41, op := Op.field 78 (Operand.tmp 40) 2, type := 3, pos := "arp.go:77", after := #[{ on := 13, ground := Ground.data }, { on := 5, ground := Ground.guard }], guard := some (5, false) }) (v := undef) rfl (by kernel_rfl) (by kernel_rfl) (by kernel_rfl) (fun _ _ _ h => h) (Or.inr ⟨by rfl, rfl⟩) hHeld ?_
            try simp only [Act.put, List.setIfInBounds_toArray, List.set_cons_succ, List.set_cons_zero]
            refine wpAnyH_take (i := 15) (oi := { dst := some 42, op := Op.binOp BinOp.lss 3 (Operand.tmp 34) (Operand.tmp 41) 3, type := 4, pos := "arp.go:77", after := #[{ on := 7, ground := Ground.data }, { on := 14, ground := Ground.data }, { on := 5, ground := Ground.guard }], guard := some (5, false) }) (v := undef) rfl (by kernel_rfl) (by kernel_rfl) (by kernel_rfl) (fun _ _ _ h => h) (Or.inr ⟨by rfl, rfl⟩) hHeld ?_
            try simp only [Act.put, List.setIfInBounds_toArray, List.set_cons_succ, List.set_cons_zero]
            refine wpAnyH_take (i := 16) (oi := { dst := some 43, op := Op.pick (Operand.tmp 32) (Operand.const (Value.bool true)) (Operand.tmp 42), type := 4, pos := "arp.go:77", after := #[{ on := 5, ground := Ground.data }, { on := 15, ground := Ground.data }, { on := 2, ground := Ground.guard }], guard := some (2, true) }) (v := ?_) rfl (by kernel_rfl) (by kernel_rfl) (by kernel_rfl) (fun _ _ _ h => h) (Or.inl ⟨by rfl, ?_⟩) hHeld ?_
            rotate_left
            · (intro w hSw; subst hSw; go_simp; first | with_reducible rfl | (rw [hf2]; rfl) | skip)
            try simp only [Act.put, List.setIfInBounds_toArray, List.set_cons_succ, List.set_cons_zero]
            refine wpAnyH_take (i := 17) (oi := { dst := some 44, op := Op.pick (Operand.tmp 29) (Operand.tmp 43) (Operand.const (Value.bool false)), type := 4, pos := "arp.go:77", after := #[{ on := 2, ground := Ground.data }, { on := 16, ground := Ground.data }], guard := none }) (v := ?_) rfl (by kernel_rfl) (by kernel_rfl) (by kernel_rfl) (fun _ _ _ h => h) (Or.inl ⟨by rfl, ?_⟩) hHeld ?_
            rotate_left
            · (intro w hSw; subst hSw; go_simp; first | with_reducible rfl | (rw [hf2]; rfl) | skip)
            try simp only [Act.put, List.setIfInBounds_toArray, List.set_cons_succ, List.set_cons_zero]
            refine wpAnyH_done (by kernel_rfl) ?_ _
            clear hHeld d0 da dm
            go_wp2
            go_roundw
            case rel => exact ⟨j + 1, _, by omega, by go_num, (HNX.out.trans HST.out).symm, rfl, rfl, HBD.out⟩
            case measure => simp [intOf]; omega
          | some p =>
            obtain ⟨k0, a0⟩ := p
            have hob : oldestOf none (s.m.take j) = some (k0, a0) := HBE.out.symm
            obtain ⟨e0, hm0, ha0, hkn⟩ : ∃ e, (k0, e) ∈ s.m ∧ e.at_ = a0 ∧ e.known = true := by
              rcases oldest_mem _ _ hob with h1 | ⟨e, h1, h2⟩
              · cases h1
              · exact ⟨e, List.mem_of_mem_take h1, h2⟩
            have hk0 := H.out.ok.key _ hm0
            obtain ⟨v0, hv0, hen0⟩ : ∃ v, lookK k0 M = some v ∧ EnS S wd v e0 := by
              rcases HCD.out.ent.look (x := k0) with ⟨_, h2⟩ | ⟨v, e, h2, h3, h4⟩
              · rw [lookK_of_mem H.out.ok.rise hm0] at h2; cases h2
              · rw [lookK_of_mem H.out.ok.rise hm0] at h3; injection h3 with h3; subst h3; exact ⟨v, h2, h4⟩
            obtain ⟨A6, n6, c6, rfl, _⟩ := hen0
            have hlk := HCD.out.map.look1 Try.underlying28 Try.underlying70 (zeroEn wd) hk0
            rw [hv0, ha0] at hlk
            simp only [Option.getD_some, hkn] at hlk
            have hf2 := field2 wd (.bool true) (.int .u64 e0.mac) (.int .i64 a0) (.int .i64 e0.tries) (.slice A6 n6 c6)
            have hbk : bestK (some (k0, a0)) = k0 := rfl
            rw [hbk]
            clear hob hm0 hk0 hv0 ha0 hbk HBE hkn
            by_cases hlt2 : att < a0
            · have HST : Hid (oldStep (some (k0, a0)) (kj, ⟨true, mc, att, trs, wt⟩) = some (kj, att)) := hid (by simp [oldStep, better, hlt2])
              have hd : decide (att < a0) = true := decide_eq_true hlt2
              refine wpAnyH_take (i := 0) (oi := { dst := some 27, op := Op.fieldAddr 78 (Operand.tmp 7) 0, type := 0, pos := "arp.go:77", after := #[], guard := none }) (v := ?_) rfl (by kernel_rfl) (by kernel_rfl) (by kernel_rfl) (fun _ _ _ h => h) (Or.inl ⟨by rfl, ?_⟩) hHeld ?_
              rotate_left
              · (intro w hSw; subst hSw; go_simp; first | with_reducible rfl | (rw [hf2]; rfl) | skip)
              try simp only [Act.put, List.setIfInBounds_toArray, List.set_cons_succ, List.set_cons_zero]
              refine wpAnyH_take (i := 1) (oi := { dst := some 28, op := Op.load 4 (Operand.tmp 27), type := 4, pos := "arp.go:77", after := #[{ on := 0, ground := Ground.data }], guard := none }) (v := ?_) rfl (by kernel_rfl) (by kernel_rfl) (by kernel_rfl) (fun _ _ _ h => h) (Or.inl ⟨by rfl, ?_⟩) hHeld ?_
              rotate_left
              · (intro w hSw; subst hSw; go_simp; first | with_reducible rfl | (rw [hf2]; rfl) | skip)
              try simp only [Act.put, List.setIfInBounds_toArray, List.set_cons_succ, List.set_cons_zero]
              refine wpAnyH_take (i := 2) (oi := { dst := some 29, op := Op.move (Operand.tmp 28), type := 4, pos := "arp.go:77", after := #[{ on := 1, ground := Ground.data }], guard := none }) (v := ?_) rfl (by kernel_rfl) (by kernel_rfl) (by kernel_rfl) (fun _ _ _ h => h) (Or.inl ⟨by rfl, ?_⟩) hHeld ?_
              rotate_left
              · (intro w hSw; subst hSw; go_simp; first | with_reducible rfl | (rw [hf2]; rfl) | skip)
              try simp only [Act.put, List.setIfInBounds_toArray, List.set_cons_succ, List.set_cons_zero]
              refine wpAnyH_take (i := 3) (oi := { dst := some 30, op := Op.move (Operand.tmp 4), type := 4, pos := "arp.go:77", after := #[{ on := 2, ground := Ground.guard }], guard := some (2, true) }) (v := ?_) rfl (by kernel_rfl) (by kernel_rfl) (by kernel_rfl) (fun _ _ _ h => h) (Or.inl ⟨by rfl, ?_⟩) hHeld ?_
              rotate_left
              · (intro w hSw; subst hSw; go_simp; first | with_reducible rfl | (rw [hf2]; rfl) | skip)
              try simp only [Act.put, List.setIfInBounds_toArray, List.set_cons_succ, List.set_cons_zero]
              refine wpAnyH_take (i := 4) (oi := { dst := some 31, op := Op.unOp UnOp.not 4 (Operand.tmp 30), type := 4, pos := "arp.go:77", after := #[{ on := 3, ground := Ground.data }, { on := 2, ground := Ground.guard }], guard := some (2, true) }) (v := ?_) rfl (by kernel_rfl) (by kernel_rfl) (by kernel_rfl) (fun _ _ _ h => h) (Or.inl ⟨by rfl, ?_⟩) hHeld ?_
              rotate_left
              · (intro w hSw; subst hSw; go_simp; first | with_reducible rfl | (rw [hf2]; rfl) | skip)
              try simp only [Act.put, List.setIfInBounds_toArray, List.set_cons_succ, List.set_cons_zero]
              refine wpAnyH_take (i := 5) (oi := { dst := some 32, op := Op.move (Operand.tmp 31), type := 4, pos := "arp.go:77", after := #[{ on := 4, ground := Ground.data }, { on := 2, ground := Ground.chain }, { on := 2, ground := Ground.guard }], guard := some (2, true) }) (v := ?_) rfl (by kernel_rfl) (by kernel_rfl) (by kernel_rfl) (fun _ _ _ h => h) (Or.inl ⟨by rfl, ?_⟩) hHeld ?_
              rotate_left
              · (intro w hSw; subst hSw; go_simp; first | with_reducible rfl | (rw [hf2]; rfl) | skip)
              try simp only [Act.put, List.setIfInBounds_toArray, List.set_cons_succ, List.set_cons_zero]
              refine wpAnyH_take (i := 6) (oi := { dst := some 33, op := Op.fieldAddr 78 (Operand.tmp 7) 2, type := 0, pos := "arp.go:77", after := #[{ on := 5, ground := Ground.guard }], guard := some (5, false) }) (v := ?_) rfl (by kernel_rfl) (by kernel_rfl) (by kernel_rfl) (fun _ _ _ h => h) (Or.inl ⟨by rfl, ?_⟩) hHeld ?_
              rotate_left
              · (intro w hSw; subst hSw; go_simp; first | with_reducible rfl | (rw [hf2]; rfl) | skip)
              try simp only [Act.put, List.setIfInBounds_toArray, List.set_cons_succ, List.set_cons_zero]
              refine wpAnyH_take (i := 7) (oi := { dst := some 34, op := Op.load 3 (Operand.tmp 33), type := 3, pos := "arp.go:77", after := #[{ on := 6, ground := Ground.data }, { on := 5, ground := Ground.guard }], guard := some (5, false) }) (v := ?_) rfl (by kernel_rfl) (by kernel_rfl) (by kernel_rfl) (fun _ _ _ h => h) (Or.inl ⟨by rfl, ?_⟩) hHeld ?_
              rotate_left
              · (intro w hSw; subst hSw; go_simp; first | with_reducible rfl | (rw [hf2]; rfl) | skip)
              try simp only [Act.put, List.setIfInBounds_toArray, List.set_cons_succ, List.set_cons_zero]
              refine wpAnyH_take (i := 8) (oi := { dst := some 35, op := Op.move (Operand.tmp 0), type := 23, pos := "arp.go:77", after := #[{ on := 5, ground := Ground.guard }], guard := some (5, false) }) (v := ?_) rfl (by kernel_rfl) (by kernel_rfl) (by kernel_rfl) (fun _ _ _ h => h) (Or.inl ⟨by rfl, ?_⟩) hHeld ?_
              rotate_left
              · (intro w hSw; subst hSw; go_simp; first | with_reducible rfl | (rw [hf2]; rfl) | skip)
              try simp only [Act.put, List.setIfInBounds_toArray, List.set_cons_succ, List.set_cons_zero]
              refine wpAnyH_take (i := 9) (oi := { dst := some 36, op := Op.nilCheck (Operand.tmp 35), type := 0, pos := "arp.go:77", after := #[{ on := 8, ground := Ground.data }, { on := 5, ground := Ground.guard }], guard := some (5, false) }) (v := ?_) rfl (by kernel_rfl) (by kernel_rfl) (by kernel_rfl) (fun _ _ _ h => h) (Or.inl ⟨by rfl, ?_⟩) hHeld ?_
              rotate_left
              · (intro w hSw; subst hSw; go_simp; first | with_reducible rfl | (rw [hf2]; rfl) | skip)
              try simp only [Act.put, List.setIfInBounds_toArray, List.set_cons_succ, List.set_cons_zero]
              refine wpAnyH_take (i := 10) (oi := { dst := some 37, op := Op.fieldAddr 72 (Operand.tmp 36) 3, type := 0, pos := "arp.go:77", after := #[{ on := 9, ground := Ground.data }, { on := 5, ground := Ground.guard }], guard := some (5, false) }) (v := ?_) rfl (by kernel_rfl) (by kernel_rfl) (by kernel_rfl) (fun _ _ _ h => h) (Or.inl ⟨by rfl, ?_⟩) hHeld ?_
              rotate_left
              · (intro w hSw; subst hSw; go_simp; first | with_reducible rfl | (rw [hf2]; rfl) | skip)
              try simp only [Act.put, List.setIfInBounds_toArray, List.set_cons_succ, List.set_cons_zero]
              refine wpAnyH_take (i := 11) (oi := { dst := some 38, op := Op.load 70 (Operand.tmp 37), type := 70, pos := "arp.go:77", after := #[{ on := 10, ground := Ground.data }, { on := 5, ground := Ground.guard }], guard := some (5, false) }) (v := ?_) rfl (by kernel_rfl) (by kernel_rfl) (by kernel_rfl) (fun _ _ _ h => h) (Or.inl ⟨by rfl, ?_⟩) hHeld ?_
              rotate_left
              · (intro w hSw; subst hSw; go_simp; first | with_reducible rfl | (rw [hf2]; rfl) | skip)
              try simp only [Act.put, List.setIfInBounds_toArray, List.set_cons_succ, List.set_cons_zero]
              refine wpAnyH_take (i := 12) (oi := { dst := some 39, op := Op.move (Operand.tmp 3), type := 28, pos := "arp.go:77", after := #[{ on := 5, ground := Ground.guard }], guard := some (5, false) }) (v := ?_) rfl (by kernel_rfl) (by kernel_rfl) (by kernel_rfl) (fun _ _ _ h => h) (Or.inl ⟨by rfl, ?_⟩) hHeld ?_
              rotate_left
              · (intro w hSw; subst hSw; go_simp; first | with_reducible rfl | (rw [hf2]; rfl) | skip)
              try simp only [Act.put, List.setIfInBounds_toArray, List.set_cons_succ, List.set_cons_zero]
              refine wpAnyH_take (i := 13) (oi := { dst := some 40, op := Op.lookup 70 (Operand.tmp 38) (Operand.tmp 39) false, type := 78, pos := "arp.go:77", after := #[{ on := 11, ground := Ground.data }, { on := 12, ground := Ground.data }, { on := 5, ground := Ground.guard }], guard := some (5, false) }) (v := ?_) rfl (by kernel_rfl) (by kernel_rfl) (by kernel_rfl) (fun _ _ _ h => h) (Or.inl ⟨by rfl, ?_⟩) hHeld ?_
              rotate_left
              · (intro w hSw; subst hSw; go_simp; first | with_reducible rfl | (rw [hf2]; rfl) | skip)
              try simp only [Act.put, List.setIfInBounds_toArray, List.set_cons_succ, List.set_cons_zero]
              refine wpAnyH_take (i := 14) (oi := { dst := some 41, op := Op.field 78 (Operand.tmp 40) 2, type := 3, pos := "arp.go:77", after := #[{ on := 13, ground := Ground.data }, { on := 5, ground := Ground.guard }], guard := some (5, false) }) (v := ?_) rfl (by kernel_rfl) (by kernel_rfl) (by kernel_rfl) (fun _ _ _ h => h) (Or.inl ⟨by rfl, ?_⟩) hHeld ?_
              rotate_left
              · (intro w hSw; subst hSw; go_simp; first | with_reducible rfl | (rw [hf2]; rfl) | skip)
              try simp only [Act.put, List.setIfInBounds_toArray, List.set_cons_succ, List.set_cons_zero]
              refine wpAnyH_take (i := 15) (oi := { dst := some 42, op := Op.binOp BinOp.lss 3 (Operand.tmp 34) (Operand.tmp 41) 3, type := 4, pos := "arp.go:77", after := #[{ on := 7, ground := Ground.data }, { on := 14, ground := Ground.data }, { on := 5, ground := Ground.guard }], guard := some (5, false) }) (v := ?_) rfl (by kernel_rfl) (by kernel_rfl) (by kernel_rfl) (fun _ _ _ h => h) (Or.inl ⟨by rfl, ?_⟩) hHeld ?_
              rotate_left
              · (intro w hSw; subst hSw; go_simp; first | with_reducible rfl | (rw [hf2]; rfl) | skip)
              try simp only [Act.put, List.setIfInBounds_toArray, List.set_cons_succ, List.set_cons_zero]
              refine wpAnyH_take (i := 16) (oi := { dst := some 43, op := Op.pick (Operand.tmp 32) (Operand.const (Value.bool true)) (Operand.tmp 42), type := 4, pos := "arp.go:77", after := #[{ on := 5, ground := Ground.data }, { on := 15, ground := Ground.data }, { on := 2, ground := Ground.guard }], guard := some (2, true) }) (v := ?_) rfl (by kernel_rfl) (by kernel_rfl) (by kernel_rfl) (fun _ _ _ h => h) (Or.inl ⟨by rfl, ?_⟩) hHeld ?_
              rotate_left
              · (intro w hSw; subst hSw; go_simp; first | with_reducible rfl | (rw [hf2]; rfl) | skip)
              try simp only [Act.put, List.setIfInBounds_toArray, List.set_cons_succ, List.set_cons_zero]
              refine wpAnyH_take (i := 17) (oi := { dst := some 44, op := Op.pick (Operand.tmp 29) (Operand.tmp 43) (Operand.const (Value.bool false)), type := 4, pos := "arp.go:77", after := #[{ on := 2, ground := Ground.data }, { on := 16, ground := Ground.data }], guard := none }) (v := ?_) rfl (by kernel_rfl) (by kernel_rfl) (by kernel_rfl) (fun _ _ _ h => h) (Or.inl ⟨by rfl, ?_⟩) hHeld ?_
              rotate_left
              · (intro w hSw; subst hSw; go_simp; first | with_reducible rfl | (rw [hf2]; rfl) | skip)
              try simp only [Act.put, List.setIfInBounds_toArray, List.set_cons_succ, List.set_cons_zero]
              refine wpAnyH_done (by kernel_rfl) ?_ _
              clear hHeld d0 da dm
              go_wp2
              go_roundw
              case rel => exact ⟨j + 1, _, by omega, by go_num, (HNX.out.trans HST.out).symm, rfl, rfl, HBD.out⟩
              case measure => simp [intOf]; omega
            · have HST : Hid (oldStep (some (k0, a0)) (kj, ⟨true, mc, att, trs, wt⟩) = some (k0, a0)) := hid (by simp [oldStep, better, hlt2])
              have hd : decide (att < a0) = false := decide_eq_false hlt2
              refine wpAnyH_take (i := 0) (oi := { dst := some 27, op := Op.fieldAddr 78 (Operand.tmp 7) 0, type := 0, pos := "arp.go:77", after := #[], guard := none }) (v := ?_) rfl (by kernel_rfl) (by kernel_rfl) (by kernel_rfl) (fun _ _ _ h => h) (Or.inl ⟨by rfl, ?_⟩) hHeld ?_
              rotate_left
              · (intro w hSw; subst hSw; go_simp; first | with_reducible rfl | (rw [hf2]; rfl) | skip)
              try simp only [Act.put, List.setIfInBounds_toArray, List.set_cons_succ, List.set_cons_zero]
              refine wpAnyH_take (i := 1) (oi := { dst := some 28, op := Op.load 4 (Operand.tmp 27), type := 4, pos := "arp.go:77", after := #[{ on := 0, ground := Ground.data }], guard := none }) (v := ?_) rfl (by kernel_rfl) (by kernel_rfl) (by kernel_rfl) (fun _ _ _ h => h) (Or.inl ⟨by rfl, ?_⟩) hHeld ?_
              rotate_left
              · (intro w hSw; subst hSw; go_simp; first | with_reducible rfl | (rw [hf2]; rfl) | skip)
              try simp only [Act.put, List.setIfInBounds_toArray, List.set_cons_succ, List.set_cons_zero]
              refine wpAnyH_take (i := 2) (oi := { dst := some 29, op := Op.move (Operand.tmp 28), type := 4, pos := "arp.go:77", after := #[{ on := 1, ground := Ground.data }], guard := none }) (v := ?_) rfl (by kernel_rfl) (by kernel_rfl) (by kernel_rfl) (fun _ _ _ h => h) (Or.inl ⟨by rfl, ?_⟩) hHeld ?_
              rotate_left
              · (intro w hSw; subst hSw; go_simp; first | with_reducible rfl | (rw [hf2]; rfl) | skip)
              try simp only [Act.put, List.setIfInBounds_toArray, List.set_cons_succ, List.set_cons_zero]
              refine wpAnyH_take (i := 3) (oi := { dst := some 30, op := Op.move (Operand.tmp 4), type := 4, pos := "arp.go:77", after := #[{ on := 2, ground := Ground.guard }], guard := some (2, true) }) (v := ?_) rfl (by kernel_rfl) (by kernel_rfl) (by kernel_rfl) (fun _ _ _ h => h) (Or.inl ⟨by rfl, ?_⟩) hHeld ?_
              rotate_left
              · (intro w hSw; subst hSw; go_simp; first | with_reducible rfl | (rw [hf2]; rfl) | skip)
              try simp only [Act.put, List.setIfInBounds_toArray, List.set_cons_succ, List.set_cons_zero]
              refine wpAnyH_take (i := 4) (oi := { dst := some 31, op := Op.unOp UnOp.not 4 (Operand.tmp 30), type := 4, pos := "arp.go:77", after := #[{ on := 3, ground := Ground.data }, { on := 2, ground := Ground.guard }], guard := some (2, true) }) (v := ?_) rfl (by kernel_rfl) (by kernel_rfl) (by kernel_rfl) (fun _ _ _ h => h) (Or.inl ⟨by rfl, ?_⟩) hHeld ?_
              rotate_left
              · (intro w hSw; subst hSw; go_simp; first | with_reducible rfl | (rw [hf2]; rfl) | skip)
              try simp only [Act.put, List.setIfInBounds_toArray, List.set_cons_succ, List.set_cons_zero]
              refine wpAnyH_take (i := 5) (oi := { dst := some 32, op := Op.move (Operand.tmp 31), type := 4, pos := "arp.go:77", after := #[{ on := 4, ground := Ground.data }, { on := 2, ground := Ground.chain }, { on := 2, ground := Ground.guard }], guard := some (2, true) }) (v := ?_) rfl (by kernel_rfl) (by kernel_rfl) (by kernel_rfl) (fun _ _ _ h => h) (Or.inl ⟨by rfl, ?_⟩) hHeld ?_
              rotate_left
              · (intro w hSw; subst hSw; go_simp; first | with_reducible rfl | (rw [hf2]; rfl) | skip)
              try simp only [Act.put, List.setIfInBounds_toArray, List.set_cons_succ, List.set_cons_zero]
              refine wpAnyH_take (i := 6) (oi := { dst := some 33, op := Op.fieldAddr 78 (Operand.tmp 7) 2, type := 0, pos := "arp.go:77", after := #[{ on := 5, ground := Ground.guard }], guard := some (5, false) }) (v := ?_) rfl (by kernel_rfl) (by kernel_rfl) (by kernel_rfl) (fun _ _ _ h => h) (Or.inl ⟨by rfl, ?_⟩) hHeld ?_
              rotate_left
              · (intro w hSw; subst hSw; go_simp; first | with_reducible rfl | (rw [hf2]; rfl) | skip)
              try simp only [Act.put, List.setIfInBounds_toArray, List.set_cons_succ, List.set_cons_zero]
              refine wpAnyH_take (i := 7) (oi := { dst := some 34, op := Op.load 3 (Operand.tmp 33), type := 3, pos := "arp.go:77", after := #[{ on := 6, ground := Ground.data }, { on := 5, ground := Ground.guard }], guard := some (5, false) }) (v := ?_) rfl (by kernel_rfl) (by kernel_rfl) (by kernel_rfl) (fun _ _ _ h => h) (Or.inl ⟨by rfl, ?_⟩) hHeld ?_
              rotate_left
              · (intro w hSw; subst hSw; go_simp; first | with_reducible rfl | (rw [hf2]; rfl) | skip)
              try simp only [Act.put, List.setIfInBounds_toArray, List.set_cons_succ, List.set_cons_zero]
              refine wpAnyH_take (i := 8) (oi := { dst := some 35, op := Op.move (Operand.tmp 0), type := 23, pos := "arp.go:77", after := #[{ on := 5, ground := Ground.guard }], guard := some (5, false) }) (v := ?_) rfl (by kernel_rfl) (by kernel_rfl) (by kernel_rfl) (fun _ _ _ h => h) (Or.inl ⟨by rfl, ?_⟩) hHeld ?_
              rotate_left
              · (intro w hSw; subst hSw; go_simp; first | with_reducible rfl | (rw [hf2]; rfl) | skip)
              try simp only [Act.put, List.setIfInBounds_toArray, List.set_cons_succ, List.set_cons_zero]
              refine wpAnyH_take (i := 9) (oi := { dst := some 36, op := Op.nilCheck (Operand.tmp 35), type := 0, pos := "arp.go:77", after := #[{ on := 8, ground := Ground.data }, { on := 5, ground := Ground.guard }], guard := some (5, false) }) (v := ?_) rfl (by kernel_rfl) (by kernel_rfl) (by kernel_rfl) (fun _ _ _ h => h) (Or.inl ⟨by rfl, ?_⟩) hHeld ?_
              rotate_left
              · (intro w hSw; subst hSw; go_simp; first | with_reducible rfl | (rw [hf2]; rfl) | skip)
              try simp only [Act.put, List.setIfInBounds_toArray, List.set_cons_succ, List.set_cons_zero]
              refine wpAnyH_take (i := 10) (oi := { dst := some 37, op := Op.fieldAddr 72 (Operand.tmp 36) 3, type := 0, pos := "arp.go:77", after := #[{ on := 9, ground := Ground.data }, { on := 5, ground := Ground.guard }], guard := some (5, false) }) (v := ?_) rfl (by kernel_rfl) (by kernel_rfl) (by kernel_rfl) (fun _ _ _ h => h) (Or.inl ⟨by rfl, ?_⟩) hHeld ?_
              rotate_left
              · (intro w hSw; subst hSw; go_simp; first | with_reducible rfl | (rw [hf2]; rfl) | skip)
              try simp only [Act.put, List.setIfInBounds_toArray, List.set_cons_succ, List.set_cons_zero]
              refine wpAnyH_take (i := 11) (oi := { dst := some 38, op := Op.load 70 (Operand.tmp 37), type := 70, pos := "arp.go:77", after := #[{ on := 10, ground := Ground.data }, { on := 5, ground := Ground.guard }], guard := some (5, false) }) (v := ?_) rfl (by kernel_rfl) (by kernel_rfl) (by kernel_rfl) (fun _ _ _ h => h) (Or.inl ⟨by rfl, ?_⟩) hHeld ?_
              rotate_left
              · (intro w hSw; subst hSw; go_simp; first | with_reducible rfl | (rw [hf2]; rfl) | skip)
              try simp only [Act.put, List.setIfInBounds_toArray, List.set_cons_succ, List.set_cons_zero]
              refine wpAnyH_take (i := 12) (oi := { dst := some 39, op := Op.move (Operand.tmp 3), type := 28, pos := "arp.go:77", after := #[{ on := 5, ground := Ground.guard }], guard := some (5, false) }) (v := ?_) rfl (by kernel_rfl) (by kernel_rfl) (by kernel_rfl) (fun _ _ _ h => h) (Or.inl ⟨by rfl, ?_⟩) hHeld ?_
              rotate_left
              · (intro w hSw; subst hSw; go_simp; first | with_reducible rfl | (rw [hf2]; rfl) | skip)
              try simp only [Act.put, List.setIfInBounds_toArray, List.set_cons_succ, List.set_cons_zero]
              refine wpAnyH_take (i := 13) (oi := { dst := some 40, op := Op.lookup 70 (Operand.tmp 38) (Operand.tmp 39) false, type := 78, pos := "arp.go:77", after := #[{ on := 11, ground := Ground.data }, { on := 12, ground := Ground.data }, { on := 5, ground := Ground.guard }], guard := some (5, false) }) (v := ?_) rfl (by kernel_rfl) (by kernel_rfl) (by kernel_rfl) (fun _ _ _ h => h) (Or.inl ⟨by rfl, ?_⟩) hHeld ?_
              rotate_left
              · (intro w hSw; subst hSw; go_simp; first | with_reducible rfl | (rw [hf2]; rfl) | skip)
              try simp only [Act.put, List.setIfInBounds_toArray, List.set_cons_succ, List.set_cons_zero]
              refine wpAnyH_take (i := 14) (oi := { dst := some 41, op := Op.field 78 (Operand.tmp 40) 2, type := 3, pos := "arp.go:77", after := #[{ on := 13, ground := Ground.data }, { on := 5, ground := Ground.guard }], guard := some (5, false) }) (v := ?_) rfl (by kernel_rfl) (by kernel_rfl) (by kernel_rfl) (fun _ _ _ h => h) (Or.inl ⟨by rfl, ?_⟩) hHeld ?_
              rotate_left
              · (intro w hSw; subst hSw; go_simp; first | with_reducible rfl | (rw [hf2]; rfl) | skip)
              try simp only [Act.put, List.setIfInBounds_toArray, List.set_cons_succ, List.set_cons_zero]
              refine wpAnyH_take (i := 15) (oi := { dst := some 42, op := Op.binOp BinOp.lss 3 (Operand.tmp 34) (Operand.tmp 41) 3, type := 4, pos := "arp.go:77", after := #[{ on := 7, ground := Ground.data }, { on := 14, ground := Ground.data }, { on := 5, ground := Ground.guard }], guard := some (5, false) }) (v := ?_) rfl (by kernel_rfl) (by kernel_rfl) (by kernel_rfl) (fun _ _ _ h => h) (Or.inl ⟨by rfl, ?_⟩) hHeld ?_
              rotate_left
              · (intro w hSw; subst hSw; go_simp; first | with_reducible rfl | (rw [hf2]; rfl) | skip)
              try simp only [Act.put, List.setIfInBounds_toArray, List.set_cons_succ, List.set_cons_zero]
              refine wpAnyH_take (i := 16) (oi := { dst := some 43, op := Op.pick (Operand.tmp 32) (Operand.const (Value.bool true)) (Operand.tmp 42), type := 4, pos := "arp.go:77", after := #[{ on := 5, ground := Ground.data }, { on := 15, ground := Ground.data }, { on := 2, ground := Ground.guard }], guard := some (2, true) }) (v := ?_) rfl (by kernel_rfl) (by kernel_rfl) (by kernel_rfl) (fun _ _ _ h => h) (Or.inl ⟨by rfl, ?_⟩) hHeld ?_
              rotate_left
              · (intro w hSw; subst hSw; go_simp; first | with_reducible rfl | (rw [hf2]; rfl) | skip)
              try simp only [Act.put, List.setIfInBounds_toArray, List.set_cons_succ, List.set_cons_zero]
              refine wpAnyH_take (i := 17) (oi := { dst := some 44, op := Op.pick (Operand.tmp 29) (Operand.tmp 43) (Operand.const (Value.bool false)), type := 4, pos := "arp.go:77", after := #[{ on := 2, ground := Ground.data }, { on := 16, ground := Ground.data }], guard := none }) (v := ?_) rfl (by kernel_rfl) (by kernel_rfl) (by kernel_rfl) (fun _ _ _ h => h) (Or.inl ⟨by rfl, ?_⟩) hHeld ?_
              rotate_left
              · (intro w hSw; subst hSw; go_simp; first | with_reducible rfl | (rw [hf2]; rfl) | skip)
              try simp only [Act.put, List.setIfInBounds_toArray, List.set_cons_succ, List.set_cons_zero]
              refine wpAnyH_done (by kernel_rfl) ?_ _
              clear hHeld d0 da dm
              go_wp2
              go_roundw
              case rel => exact ⟨j + 1, _, by omega, by go_num, (HNX.out.trans HST.out).symm, rfl, rfl, HBD.out⟩
              case measure => simp [intOf]; omega
      · obtain rfl : j = n := by omega
        have hfull : s.m.take j = s.m := List.take_of_length_le (by rw [← H.out.ent.len, ← HNN.out]; exact Nat.le_refl _)
        rw [hfull] at HBE
        have hj1 : ¬ (j : Int) < (j : Int) := by omega
        have hBW := below_then HB1.out HBL.out
        have HBW := hid hBW
        have c3 := HCW.out.cells.2.2.2.1
        clear hfull hBW HOW HKL HBL
        cases best with
        | none =>
          have HR := hid (room_none HN8.out HBE.out.symm)
          clear c3
          go_wp2
          go_ret
          exact ⟨M, by rw [HR.out]; rfl, by rw [HR.out]; exact HCW.out, grown_below HBW.out⟩
        | some p =>
          obtain ⟨k0, a0⟩ := p
          have HR := hid (room_some HN8.out HBE.out.symm)
          obtain ⟨e0, hm0, _⟩ : ∃ e, (k0, e) ∈ s.m ∧ e.at_ = a0 ∧ e.known = true := by
            rcases oldest_mem _ _ HBE.out.symm with h1 | ⟨e, h1, h2⟩
            · cases h1
            · exact ⟨e, h1, h2⟩
          have HK0 := hid (H.out.ok.key _ hm0)
          have hbk : bestK (some (k0, a0)) = k0 := rfl
          rw [hbk]
          clear hm0 hbk
          go_wp2_with (with_reducible refine hold_op (o := ⟨none, _, _, _, _, _⟩) ?_)
          refine hid ?_
          refine BigFrame.wpList_want rfl fun K hK => wp_mdel _ _ 70 28 78 rfl Try.underlying28 Try.underlying70 b M HCW.out.map rfl k0 rfl HK0.out (fun w3 hM3 hg3 => hK _ _ ?_)
          have hcs : CSt S w3 g b (delK k0 M) { s with m := delK k0 s.m } := ⟨(hg3.block g HCW.out.lt (fun e => by injection e with e; exact HCW.out.ne e)).trans HCW.out.blk, hM3, (HCW.out.ent.agree (Agree.of_grown hg3 HCW.out.sl HCW.out.nb)).del, HCW.out.ok.del k0, fun q hq => Nat.lt_of_lt_of_le (HCW.out.sl q hq) hg3.size, HCW.out.ng, HCW.out.nb⟩
          have HCS := hid hcs
          have HG := hid (grown_trans (grown_below HBW.out) hg3)
          clear hcs hM3 hg3 c3
          dsimp only [Act.put]
          go_wp2
          go_ret
          exact ⟨_, by rw [HR.out]; rfl, by rw [HR.out]; exact HCS.out, HG.out⟩
end Go.Proofs.Ytebfoigbiekeiaa
