/-
  LAYER 8, WALKS: ether.Take.
-/
import Derived.Test.YtebfoigbiekeiaaOctM
import Derived.Test.YtebfoigbiekeiaaArpH
import Derived.Laws.ResultCell
set_option linter.unusedVariables false
set_option linter.unusedSimpArgs false
namespace Go.Proofs.Ytebfoigbiekeiaa
open Go Go.RowKit

def numAt (b : List Int) (at_ n : Nat) : Int := numI ((b.drop at_).take n)
theorem numAt_range {xs : List Int} (hB : Bytes xs) (p k : Nat) (h : p + k ≤ xs.length) : 0 ≤ numAt xs p k ∧ numAt xs p k < 256 ^ k :=
  numI_range k _ (by simp; omega) (hB.sub (fun y hy => List.mem_of_mem_drop (List.mem_of_mem_take hy)))
theorem Rd.drop {w : World} {k : IntKind} {b o : Nat} {xs : List Int} (h : Rd w k (some ⟨b, o, none⟩) xs) (t : Nat) : Rd w k (some ⟨b, o + t, none⟩) (xs.drop t) :=
  ⟨by have := h.len; simp; omega, fun j hj => by
    have hj' : t + j < xs.length := by simp at hj; omega
    obtain ⟨b', o', e, hl, hc⟩ := h.at_ (t + j) hj'
    injection e with e; injection e with e1 e2 e3; subst e1 e2
    refine ⟨b, o + t, rfl, hl, ?_⟩
    rw [show o + t + j = o + (t + j) by omega, hc]; simp [List.getD_eq_getElem?_getD]⟩
/-- A reader of bytes, above w0. -/
structure Nx (w0 w : World) (gp gq : Nat) (A : Option Addr) (n c : Nat) (xs : List Int) (p : Nat) : Prop where
  bel : Below w0.heap.size w0 w
  lp : w0.heap.size ≤ gp
  lq : w0.heap.size ≤ gq
  ne : gp ≠ gq
  cp : Cell w gp 31 (.slice A n c)
  cq : Cell w gq 3 (.int .i64 p)
  rd : Rd w0 .u8 A xs
theorem Nx.below {w0 w w' : World} {gp gq : Nat} {A : Option Addr} {n c : Nat} {xs : List Int} {p : Nat} (h : Nx w0 w gp gq A n c xs p) (hb : Below w.heap.size w w') : Nx w0 w' gp gq A n c xs p :=
  ⟨below_then h.bel hb, h.lp, h.lq, h.ne, (hb.block gp h.cp.lt).trans h.cp, (hb.block gq h.cq.lt).trans h.cq, h.rd⟩
theorem reader_calls (A : Option Addr) (n c : Nat) (xs : List Int) (w : World) (hR : Rd w .u8 A xs) :
    Calls Try.prog 26 #[.slice A n c, .int .i64 0] w fun e w' => ∃ gp gq, e = .returned (.func (.func 41) #[] #[.pointer (some ⟨gp, 0, none⟩), .pointer (some ⟨gq, 0, none⟩)]) ∧ Nx w w' gp gq A n c xs 0 := by
  have HR := hid hR; clear hR
  go_enter Try.func26, Try.ntmps26
  go_wp2
  go_ret
  have hb1 : Below w.heap.size w (w.alloc (.cells #[.slice A n c] 31)) := (Below.refl _ _).alloc (Nat.le_refl _) _
  have hc1 := Cell.new w 31 (.slice A n c)
  have hs : (w.alloc (.cells #[.slice A n c] 31)).heap.size = w.heap.size + 1 := by simp
  have hb2 : Below (w.alloc (.cells #[.slice A n c] 31)).heap.size (w.alloc (.cells #[.slice A n c] 31)) ((w.alloc (.cells #[.slice A n c] 31)).alloc (.cells #[.int .i64 0] 3)) := (Below.refl _ _).alloc (Nat.le_refl _) _
  have hc2 := Cell.new (w.alloc (.cells #[.slice A n c] 31)) 3 (.int .i64 0)
  rw [hs] at hc2
  exact ⟨w.heap.size, w.heap.size + 1, rfl, below_then hb1 hb2, Nat.le_refl _, by omega, by omega, (hb2.block _ hc1.lt).trans hc1, hc2, HR.out⟩
theorem Nx.next {w0 w : World} {gp gq : Nat} {A : Option Addr} {n c : Nat} {xs : List Int} {p : Nat} (h : Nx w0 w gp gq A n c xs p) (k : Nat) (hn : xs.length = n) (hB : Bytes xs) (h1 : 1 ≤ k) (h8 : k ≤ 8) (hp : p + k ≤ n) (hl : n ≤ 1514) (hc : n ≤ c) (hcm : c ≤ 9223372036854775807) :
    Calls Try.prog 41 #[.int .i64 k, .pointer (some ⟨gp, 0, none⟩), .pointer (some ⟨gq, 0, none⟩)] w fun e w' => e = .returned (.int .u64 (numAt xs p k)) ∧ Nx w0 w' gp gq A n c xs (p + k) ∧ w.grownBy w' (some gq) := by
  have c4 := h.cp.cell
  have c8 := h.cq.cell
  have f8 := h.cq.free
  have HN := hid (num_calls c n p k A xs hn w (h.rd.below h.bel) hB h1 h8 hp hc hcm)
  have hw : IntKind.i64.wrap ((p : Int) + (k : Int)) = (p : Int) + k := IntWalk.i64_in _ (by omega)
  have H := hid h
  clear h hB
  go_enter Try.func41, Try.ntmps41
  go_wp2_with (go_at_call 42; refine Calls.mono HN.out ?_; rintro e w' ⟨rfl, rfl⟩)
  go_ret
  have hg := grown_set w gq 0 (.int .i64 ((p : Int) + k))
  refine ⟨rfl, ⟨⟨hg.os.trans H.out.bel.os, hg.tape.trans H.out.bel.tape, hg.output.trans H.out.bel.output, Nat.le_trans H.out.bel.size hg.size, fun i hi => (hg.block i (Nat.lt_of_lt_of_le hi H.out.bel.size) (fun e => by injection e with e; have := H.out.lq; omega)).trans (H.out.bel.block i hi)⟩, H.out.lp, H.out.lq, H.out.ne, H.out.cp.kept hg (fun e => by injection e with e; exact H.out.ne e), ?_, H.out.rd⟩, hg⟩
  have := H.out.cq.set (.int .i64 ((p : Int) + k))
  rw [show ((p + k : Nat) : Int) = (p : Int) + k by omega]
  exact this
theorem grown_setRow (w : World) (g : Nat) (cs : Array Value) : w.grownBy (w.setRow g cs) (some g) :=
  ⟨rfl, rfl, rfl, by simp, fun i _ hne => setRow_other w g i cs (fun e => hne (by rw [e]))⟩
set_option maxHeartbeats 12800000 in
set_option maxRecDepth 100000 in
theorem etake_calls (A : Option Addr) (n c : Nat) (xs : List Int) (hn : xs.length = n) (h14 : 15 ≤ n) (h15 : n ≤ 1514) (hk : 1536 ≤ numAt xs 12 2) (hB : Bytes xs) (w : World) (hR : Rd w .u8 A xs) (hc : n ≤ c) (hcm : c ≤ 9223372036854775807) :
    Calls Try.prog 12 #[.slice A n c] w fun e w' => ∃ v, e = .returned (.tuple #[.agg #[.int .u64 (numAt xs 0 6), .int .u64 (numAt xs 6 6), .int .u16 (numAt xs 12 2), v], .int .i64 0]) ∧ Own w' w.heap.size 5 .u8 v (xs.drop 14) ∧ Below w.heap.size w w' := by
  obtain ⟨b, o, rfl, _⟩ := hR.form 0 (by omega)
  have HN := hid hn; have HB := hid hB; have HR := hid hR
  have hr2 := numAt_range hB 12 2 (by omega)
  obtain ⟨a0, ha0⟩ : ∃ x, x = numAt xs 0 6 := ⟨_, rfl⟩
  obtain ⟨a1, ha1⟩ : ∃ x, x = numAt xs 6 6 := ⟨_, rfl⟩
  obtain ⟨a2, ha2⟩ : ∃ x, x = numAt xs 12 2 := ⟨_, rfl⟩
  rw [← ha2] at hk hr2
  have A0 := hid ha0; have A1 := hid ha1; have A2 := hid ha2; have HK2 := hid hk
  have hm2 : a2 < 65536 := by have := hr2.2; omega
  have hm20 : 0 ≤ a2 := hr2.1
  have hwr : IntKind.u16.wrap a2 = a2 := IntWalk.u16_in _ (by omega)
  clear hn hB hR ha0 ha1 ha2 hr2 hk
  have x14 : ¬ (n : Int) < 14 := by omega
  have x15 : ¬ (1514 : Int) < (n : Int) := by omega
  have hc14 : ¬ c = 14 := by omega
  go_enter Try.func12, Try.ntmps12
  go_wp2_with (go_at_call 26; refine hold ?_)
  have HRES := hid (show (w.alloc (.cells #[.int .u64 0, .int .u64 0, .int .u16 0, .slice none 0 0] 33)).heap[w.heap.size]? = some (.cells #[.int .u64 0, .int .u64 0, .int .u16 0, .slice none 0 0] 33 (0, 0)) from heap_alloc_new _ _)
  have HBE0 := hid (show Below w.heap.size w (w.alloc (.cells #[.int .u64 0, .int .u64 0, .int .u16 0, .slice none 0 0] 33)) from (Below.refl _ _).alloc (Nat.le_refl _) _)
  generalize w.alloc (.cells #[.int .u64 0, .int .u64 0, .int .u16 0, .slice none 0 0] 33) = w1 at *
  refine hid ?_
  refine Calls.mono (reader_calls (some ⟨b, o, none⟩) n c xs w1 (HR.out.below HBE0.out)) ?_
  rintro e w2 ⟨gp, gq, rfl, hnx⟩
  have HNX := hid hnx
  clear hnx
  go_wp2_with fail
  have HNX := hid (HNX.out.below (w' := w2.drew) (Below.refl _ _).drew)
  have HNX0 := HNX
  refine wp_region_held_drew (S := fun _ => True) (by kernel_rfl) trivial (fun hHeld => ?_)
  generalize w2.drew = wc at *
  refine wpAnyH_take (i := 0) (oi := { dst := some 18, op := Op.move (Operand.tmp 4), type := 73, pos := "ether.go:61", after := #[], guard := none }) (v := ?_) rfl (by kernel_rfl) (by kernel_rfl) (by kernel_rfl) (fun _ _ _ h => h) (Or.inl ⟨by rfl, ?_⟩) hHeld ?_
  rotate_left
  · (intro w2 hSw; go_simp; first | with_reducible rfl | skip)
  try simp only [Act.put, List.setIfInBounds_toArray, List.set_cons_succ, List.set_cons_zero]
  refine wpAnyH_take (i := 2) (oi := { dst := some 20, op := Op.move (Operand.tmp 4), type := 73, pos := "ether.go:61", after := #[], guard := none }) (v := ?_) rfl (by kernel_rfl) (by kernel_rfl) (by kernel_rfl) (fun _ _ _ h => h) (Or.inl ⟨by rfl, ?_⟩) hHeld ?_
  rotate_left
  · (intro w2 hSw; go_simp; first | with_reducible rfl | skip)
  try simp only [Act.put, List.setIfInBounds_toArray, List.set_cons_succ, List.set_cons_zero]
  refine wpAnyH_take (i := 4) (oi := { dst := some 22, op := Op.move (Operand.tmp 4), type := 73, pos := "ether.go:61", after := #[], guard := none }) (v := ?_) rfl (by kernel_rfl) (by kernel_rfl) (by kernel_rfl) (fun _ _ _ h => h) (Or.inl ⟨by rfl, ?_⟩) hHeld ?_
  rotate_left
  · (intro w2 hSw; go_simp; first | with_reducible rfl | skip)
  try simp only [Act.put, List.setIfInBounds_toArray, List.set_cons_succ, List.set_cons_zero]
  refine wpAnyH_take (i := 7) (oi := { dst := some 25, op := Op.move (Operand.tmp 0), type := 31, pos := "ether.go:61", after := #[], guard := none }) (v := ?_) rfl (by kernel_rfl) (by kernel_rfl) (by kernel_rfl) (fun _ _ _ h => h) (Or.inl ⟨by rfl, ?_⟩) hHeld ?_
  rotate_left
  · (intro w2 hSw; go_simp; first | with_reducible rfl | skip)
  try simp only [Act.put, List.setIfInBounds_toArray, List.set_cons_succ, List.set_cons_zero]
  refine wpAnyH_take (i := 8) (oi := { dst := some 26, op := Op.slice 31 (Operand.tmp 25) (some (Operand.const (Value.int IntKind.i64 14))) none none, type := 31, pos := "ether.go:61", after := #[{ on := 7, ground := Ground.data }], guard := none }) (v := ?_) rfl (by kernel_rfl) (by kernel_rfl) (by kernel_rfl) (fun _ _ _ h => h) (Or.inl ⟨by rfl, ?_⟩) hHeld ?_
  rotate_left
  · (intro w2 hSw; go_simp; first | with_reducible rfl | skip)
  try simp only [Act.put, List.setIfInBounds_toArray, List.set_cons_succ, List.set_cons_zero]
  refine wpAnyH_ready (rs := [1, 11]) (by kernel_rfl) (by simp) ?_
  refine AllReadyH.cons (o := _) rfl (fun K hK => ?_) (AllReadyH.cons (o := _) rfl (fun K hK => ?_) AllReadyH.nil)
  · go_simp
    go_at_call 41
    refine Calls.mono (HNX.out.next 6 HN.out HB.out (by decide) (by decide) (by omega) (by omega) hc hcm) ?_
    rintro e w9 ⟨rfl, hnx, hgr⟩
    have HNX0 := hid hnx
    have HNX := hid hnx
    clear hnx hgr
    rw [show numAt xs 0 6 = a0 from A0.out.symm]
    refine hK.out _ _ trivial (fun hHeld => ?_)
    clear hK K
    generalize w9 = wc at *
    try simp only [Act.put, List.setIfInBounds_toArray, List.set_cons_succ, List.set_cons_zero]
    refine wpAnyH_ready (rs := [3, 11]) (by kernel_rfl) (by simp) ?_
    refine AllReadyH.cons (o := _) rfl (fun K hK => ?_) (AllReadyH.cons (o := _) rfl (fun K hK => ?_) AllReadyH.nil)
    · go_simp
      go_at_call 41
      refine Calls.mono (HNX.out.next 6 HN.out HB.out (by decide) (by decide) (by omega) (by omega) hc hcm) ?_
      rintro e w9 ⟨rfl, hnx, hgr⟩
      have HNX0 := hid hnx
      have HNX := hid hnx
      clear hnx hgr
      rw [show numAt xs 6 6 = a1 from A1.out.symm]
      refine hK.out _ _ trivial (fun hHeld => ?_)
      clear hK K
      generalize w9 = wc at *
      try simp only [Act.put, List.setIfInBounds_toArray, List.set_cons_succ, List.set_cons_zero]
      refine wpAnyH_ready (rs := [5, 11]) (by kernel_rfl) (by simp) ?_
      refine AllReadyH.cons (o := _) rfl (fun K hK => ?_) (AllReadyH.cons (o := _) rfl (fun K hK => ?_) AllReadyH.nil)
      · go_simp
        go_at_call 41
        refine Calls.mono (HNX.out.next 2 HN.out HB.out (by decide) (by decide) (by omega) (by omega) hc hcm) ?_
        rintro e w9 ⟨rfl, hnx, hgr⟩
        have HNX0 := hid hnx
        have HNX := hid hnx
        clear hnx hgr
        rw [show numAt xs 12 2 = a2 from A2.out.symm]
        refine hK.out _ _ trivial (fun hHeld => ?_)
        clear hK K
        generalize w9 = wc at *
        try simp only [Act.put, List.setIfInBounds_toArray, List.set_cons_succ, List.set_cons_zero]
        refine wpAnyH_take (i := 6) (oi := { dst := some 24, op := Op.convert 27 30 (Operand.tmp 23), type := 30, pos := "ether.go:61", after := #[{ on := 5, ground := Ground.data }], guard := none }) (v := ?_) rfl (by kernel_rfl) (by kernel_rfl) (by kernel_rfl) (fun _ _ _ h => h) (Or.inl ⟨by rfl, ?_⟩) hHeld ?_
        rotate_left
        · (intro w2 hSw; go_simp; first | with_reducible rfl | skip)
        try simp only [Act.put, List.setIfInBounds_toArray, List.set_cons_succ, List.set_cons_zero]
        refine wpAnyH_ready (rs := [9, 11]) (by kernel_rfl) (by simp) ?_
        refine AllReadyH.cons (o := _) rfl (fun K hK => ?_) (AllReadyH.cons (o := _) rfl (fun K hK => ?_) AllReadyH.nil)
        · go_simp
          go_at_call 27
          refine Calls.mono (clone_calls (c - 14) (n - 14) (some ⟨b, o + 14, none⟩) (xs.drop 14) (by rw [List.length_drop, HN.out]) wc ((HNX.out.rd.below HNX.out.bel).drop 14) (by simp) (by omega)) ?_
          rintro e w9 ⟨vb, rfl, hob, hbb⟩
          have HBO := hid (show Own w9 w1.heap.size 5 .u8 vb (xs.drop 14) from hob.base w1.heap.size HNX.out.bel.size)
          have HNX := hid (HNX.out.below hbb)
          have HNX0 := HNX
          obtain ⟨Ab, nb, cb, rfl⟩ := hob.form
          clear hob hbb
          refine hK.out _ _ trivial (fun hHeld => ?_)
          clear hK K
          generalize w9 = wc at *
          try simp only [Act.put, List.setIfInBounds_toArray, List.set_cons_succ, List.set_cons_zero]
          refine wpAnyH_take (i := 10) (oi := { dst := some 28, op := Op.build 33 #[(0, Operand.tmp 19), (1, Operand.tmp 21), (2, Operand.tmp 24), (3, Operand.tmp 27)], type := 33, pos := "ether.go:61", after := #[{ on := 1, ground := Ground.data }, { on := 3, ground := Ground.data }, { on := 6, ground := Ground.data }, { on := 9, ground := Ground.data }], guard := none }) (v := .agg #[.int .u64 a0, .int .u64 a1, .int .u16 a2, .slice Ab nb cb]) rfl (by kernel_rfl) (by kernel_rfl) (by kernel_rfl) (fun _ _ _ h => h) (Or.inl ⟨by rfl, ?_⟩) hHeld ?_
          · (intro w2 hSw; go_simp)
          try simp only [Act.put, List.setIfInBounds_toArray, List.set_cons_succ, List.set_cons_zero]
          refine wpAnyH_ready (rs := [11]) (by kernel_rfl) (by simp) ?_
          refine AllReadyH.cons (o := _) rfl (fun K hK => ?_) AllReadyH.nil
          go_simp
          refine hK.out _ _ trivial (fun hHeld => ?_)
          clear hK K
          have hbe : Below wc.heap.size wc (wc.alloc (.cells #[.int .u64 0, .int .u64 0, .int .u16 0, .slice none 0 0] 33)) := (Below.refl _ _).alloc (Nat.le_refl _) _
          have HE := hid (show (wc.alloc (.cells #[.int .u64 0, .int .u64 0, .int .u16 0, .slice none 0 0] 33)).heap[wc.heap.size]? = some (.cells #[.int .u64 0, .int .u64 0, .int .u16 0, .slice none 0 0] 33 (0, 0)) from heap_alloc_new _ _)
          have HNX := hid (HNX.out.below hbe)
          have HBO := hid (HBO.out.below hbe)
          obtain ⟨en, hen⟩ : ∃ en, en = wc.heap.size := ⟨_, rfl⟩
          have HEN : Hid (w1.heap.size ≤ en) := hid (by rw [hen]; have := HNX0.out.bel.size; omega)
          have HEQ : Hid (gq < en) := hid (by rw [hen]; exact HNX0.out.cq.lt)
          rw [← hen] at HE ⊢
          clear hen
          generalize wc.alloc (.cells #[.int .u64 0, .int .u64 0, .int .u16 0, .slice none 0 0] 33) = wc at *
          clear hbe
          try simp only [Act.put, List.setIfInBounds_toArray, List.set_cons_succ, List.set_cons_zero]
          refine wpAnyH_ready (rs := [12]) (by kernel_rfl) (by simp) ?_
          refine AllReadyH.cons (o := _) rfl (fun K hK => ?_) AllReadyH.nil
          refine wp_store_row 33 (.tmp 5) (.tmp 28) rfl en #[.int .u64 a0, .int .u64 a1, .int .u16 a2, .slice Ab nb cb] rfl rfl 33 _ HE.out (by kernel_rfl) rfl (by kernel_rfl) ?_
          have hg := grown_setRow wc en #[.int .u64 a0, .int .u64 a1, .int .u16 a2, .slice Ab nb cb]
          have HW := hid (setRow_heap wc en _ #[.int .u64 a0, .int .u64 a1, .int .u16 a2, .slice Ab nb cb] 33 _ HE.out)
          have HBO := hid (HBO.out.kept hg (row_ne HBO.out HE.out (by decide)))
          have HBE := hid (below_setRow HNX.out.bel HEN.out #[.int .u64 a0, .int .u64 a1, .int .u16 a2, .slice Ab nb cb])
          refine hK.out _ _ trivial (fun hHeld => ?_)
          clear hK K hHeld hg HE
          generalize wc.setRow en #[.int .u64 a0, .int .u64 a1, .int .u16 a2, .slice Ab nb cb] = wc at *
          refine wpAnyH_done (by kernel_rfl) ?_ _
          have k2 : wc.cell? ⟨en, 2, none⟩ = some (.int .u16 a2) := cellOf HW.out rfl
          have ha2 : ¬ a2 < 1536 := by have := HK2.out; omega
          go_wp2_with (with_reducible refine hold_op (o := ⟨some 33, _, _, _, _, _⟩) ?_)
          have HR0 := hid ((HBE.out.block w.heap.size (lt_of_block HRES.out)).trans HRES.out)
          have HBF := hid (below_then HBE0.out HBE.out)
          clear k2 ha2 HRES HNX HNX0
          refine hid ?_
          refine wpList_load_row rfl 33 (.tmp 5) rfl en rfl 33 _ (0, 0) _ HW.out Try.underlying33 rfl (by kernel_rfl) ?_
          dsimp only [Act.put, List.setIfInBounds_toArray, List.set_cons_succ, List.set_cons_zero]
          refine wpList_store_row rfl 33 (.tmp 2) (.tmp 33) rfl w.heap.size #[.int .u64 a0, .int .u64 a1, .int .u16 a2, .slice Ab nb cb] rfl rfl 33 _ HR0.out (by kernel_rfl) rfl (by kernel_rfl) ?_
          have hg := grown_setRow wc w.heap.size #[.int .u64 a0, .int .u64 a1, .int .u16 a2, .slice Ab nb cb]
          have HW2 := hid (setRow_heap wc w.heap.size _ #[.int .u64 a0, .int .u64 a1, .int .u16 a2, .slice Ab nb cb] 33 _ HR0.out)
          have HBO := hid (HBO.out.kept hg (row_ne HBO.out HR0.out (by decide)))
          have HBG := hid (below_setRow HBF.out (Nat.le_refl _) #[.int .u64 a0, .int .u64 a1, .int .u16 a2, .slice Ab nb cb])
          clear hg HW HR0
          generalize wc.setRow w.heap.size #[.int .u64 a0, .int .u64 a1, .int .u16 a2, .slice Ab nb cb] = wc at *
          dsimp only [Act.put, List.setIfInBounds_toArray, List.set_cons_succ, List.set_cons_zero]
          go_wp2
          refine bodyPost_ret (v := .tuple #[.agg #[.int .u64 a0, .int .u64 a1, .int .u16 a2, .slice Ab nb cb], .int .i64 0]) ?_ rfl ⟨_, by rw [A0.out, A1.out, A2.out], HBO.out.base w.heap.size (by have := HBE0.out.size; omega), HBG.out⟩
          rw [results_cell_tmp (p := 2) (u := 3) rfl]
          refine (show _ = _ from ?_)
          show (Sem.run _ (asAddr (.pointer (some ⟨w.heap.size, 0, none⟩))) wc).andThen _ = _
          simp only [asAddr, Sem.run_pure, Result.andThen_ok, run_loadVar_row wc w.heap.size 33 33 _ (0, 0) _ HW2.out Try.underlying33 rfl (by kernel_rfl)]
          rfl

        · go_simp
          refine hK.out _ _ trivial (fun hHeld => ?_)
          clear hK K
          have hbe : Below wc.heap.size wc (wc.alloc (.cells #[.int .u64 0, .int .u64 0, .int .u16 0, .slice none 0 0] 33)) := (Below.refl _ _).alloc (Nat.le_refl _) _
          have HE := hid (show (wc.alloc (.cells #[.int .u64 0, .int .u64 0, .int .u16 0, .slice none 0 0] 33)).heap[wc.heap.size]? = some (.cells #[.int .u64 0, .int .u64 0, .int .u16 0, .slice none 0 0] 33 (0, 0)) from heap_alloc_new _ _)
          have HNX := hid (HNX.out.below hbe)
          obtain ⟨en, hen⟩ : ∃ en, en = wc.heap.size := ⟨_, rfl⟩
          have HEN : Hid (w1.heap.size ≤ en) := hid (by rw [hen]; have := HNX0.out.bel.size; omega)
          have HEQ : Hid (gq < en) := hid (by rw [hen]; exact HNX0.out.cq.lt)
          rw [← hen] at HE ⊢
          clear hen
          generalize wc.alloc (.cells #[.int .u64 0, .int .u64 0, .int .u16 0, .slice none 0 0] 33) = wc at *
          clear hbe
          try simp only [Act.put, List.setIfInBounds_toArray, List.set_cons_succ, List.set_cons_zero]
          refine wpAnyH_ready (rs := [9]) (by kernel_rfl) (by simp) ?_
          refine AllReadyH.cons (o := _) rfl (fun K hK => ?_) AllReadyH.nil
          go_simp
          go_at_call 27
          refine Calls.mono (clone_calls (c - 14) (n - 14) (some ⟨b, o + 14, none⟩) (xs.drop 14) (by rw [List.length_drop, HN.out]) wc ((HNX.out.rd.below HNX.out.bel).drop 14) (by simp) (by omega)) ?_
          rintro e w9 ⟨vb, rfl, hob, hbb⟩
          have HE := hid ((hbb.block en (lt_of_block HE.out)).trans HE.out)
          have HBO := hid (show Own w9 w1.heap.size 5 .u8 vb (xs.drop 14) from hob.base w1.heap.size HNX.out.bel.size)
          have HNX := hid (HNX.out.below hbb)
          have HNX0 := HNX
          obtain ⟨Ab, nb, cb, rfl⟩ := hob.form
          clear hob hbb
          refine hK.out _ _ trivial (fun hHeld => ?_)
          clear hK K
          generalize w9 = wc at *
          try simp only [Act.put, List.setIfInBounds_toArray, List.set_cons_succ, List.set_cons_zero]
          refine wpAnyH_take (i := 10) (oi := { dst := some 28, op := Op.build 33 #[(0, Operand.tmp 19), (1, Operand.tmp 21), (2, Operand.tmp 24), (3, Operand.tmp 27)], type := 33, pos := "ether.go:61", after := #[{ on := 1, ground := Ground.data }, { on := 3, ground := Ground.data }, { on := 6, ground := Ground.data }, { on := 9, ground := Ground.data }], guard := none }) (v := .agg #[.int .u64 a0, .int .u64 a1, .int .u16 a2, .slice Ab nb cb]) rfl (by kernel_rfl) (by kernel_rfl) (by kernel_rfl) (fun _ _ _ h => h) (Or.inl ⟨by rfl, ?_⟩) hHeld ?_
          · (intro w2 hSw; go_simp)
          try simp only [Act.put, List.setIfInBounds_toArray, List.set_cons_succ, List.set_cons_zero]
          refine wpAnyH_ready (rs := [12]) (by kernel_rfl) (by simp) ?_
          refine AllReadyH.cons (o := _) rfl (fun K hK => ?_) AllReadyH.nil
          refine wp_store_row 33 (.tmp 5) (.tmp 28) rfl en #[.int .u64 a0, .int .u64 a1, .int .u16 a2, .slice Ab nb cb] rfl rfl 33 _ HE.out (by kernel_rfl) rfl (by kernel_rfl) ?_
          have hg := grown_setRow wc en #[.int .u64 a0, .int .u64 a1, .int .u16 a2, .slice Ab nb cb]
          have HW := hid (setRow_heap wc en _ #[.int .u64 a0, .int .u64 a1, .int .u16 a2, .slice Ab nb cb] 33 _ HE.out)
          have HBO := hid (HBO.out.kept hg (row_ne HBO.out HE.out (by decide)))
          have HBE := hid (below_setRow HNX.out.bel HEN.out #[.int .u64 a0, .int .u64 a1, .int .u16 a2, .slice Ab nb cb])
          refine hK.out _ _ trivial (fun hHeld => ?_)
          clear hK K hHeld hg HE
          generalize wc.setRow en #[.int .u64 a0, .int .u64 a1, .int .u16 a2, .slice Ab nb cb] = wc at *
          refine wpAnyH_done (by kernel_rfl) ?_ _
          have k2 : wc.cell? ⟨en, 2, none⟩ = some (.int .u16 a2) := cellOf HW.out rfl
          have ha2 : ¬ a2 < 1536 := by have := HK2.out; omega
          go_wp2_with (with_reducible refine hold_op (o := ⟨some 33, _, _, _, _, _⟩) ?_)
          have HR0 := hid ((HBE.out.block w.heap.size (lt_of_block HRES.out)).trans HRES.out)
          have HBF := hid (below_then HBE0.out HBE.out)
          clear k2 ha2 HRES HNX HNX0
          refine hid ?_
          refine wpList_load_row rfl 33 (.tmp 5) rfl en rfl 33 _ (0, 0) _ HW.out Try.underlying33 rfl (by kernel_rfl) ?_
          dsimp only [Act.put, List.setIfInBounds_toArray, List.set_cons_succ, List.set_cons_zero]
          refine wpList_store_row rfl 33 (.tmp 2) (.tmp 33) rfl w.heap.size #[.int .u64 a0, .int .u64 a1, .int .u16 a2, .slice Ab nb cb] rfl rfl 33 _ HR0.out (by kernel_rfl) rfl (by kernel_rfl) ?_
          have hg := grown_setRow wc w.heap.size #[.int .u64 a0, .int .u64 a1, .int .u16 a2, .slice Ab nb cb]
          have HW2 := hid (setRow_heap wc w.heap.size _ #[.int .u64 a0, .int .u64 a1, .int .u16 a2, .slice Ab nb cb] 33 _ HR0.out)
          have HBO := hid (HBO.out.kept hg (row_ne HBO.out HR0.out (by decide)))
          have HBG := hid (below_setRow HBF.out (Nat.le_refl _) #[.int .u64 a0, .int .u64 a1, .int .u16 a2, .slice Ab nb cb])
          clear hg HW HR0
          generalize wc.setRow w.heap.size #[.int .u64 a0, .int .u64 a1, .int .u16 a2, .slice Ab nb cb] = wc at *
          dsimp only [Act.put, List.setIfInBounds_toArray, List.set_cons_succ, List.set_cons_zero]
          go_wp2
          refine bodyPost_ret (v := .tuple #[.agg #[.int .u64 a0, .int .u64 a1, .int .u16 a2, .slice Ab nb cb], .int .i64 0]) ?_ rfl ⟨_, by rw [A0.out, A1.out, A2.out], HBO.out.base w.heap.size (by have := HBE0.out.size; omega), HBG.out⟩
          rw [results_cell_tmp (p := 2) (u := 3) rfl]
          refine (show _ = _ from ?_)
          show (Sem.run _ (asAddr (.pointer (some ⟨w.heap.size, 0, none⟩))) wc).andThen _ = _
          simp only [asAddr, Sem.run_pure, Result.andThen_ok, run_loadVar_row wc w.heap.size 33 33 _ (0, 0) _ HW2.out Try.underlying33 rfl (by kernel_rfl)]
          rfl

      · go_simp
        refine hK.out _ _ trivial (fun hHeld => ?_)
        clear hK K
        have hbe : Below wc.heap.size wc (wc.alloc (.cells #[.int .u64 0, .int .u64 0, .int .u16 0, .slice none 0 0] 33)) := (Below.refl _ _).alloc (Nat.le_refl _) _
        have HE := hid (show (wc.alloc (.cells #[.int .u64 0, .int .u64 0, .int .u16 0, .slice none 0 0] 33)).heap[wc.heap.size]? = some (.cells #[.int .u64 0, .int .u64 0, .int .u16 0, .slice none 0 0] 33 (0, 0)) from heap_alloc_new _ _)
        have HNX := hid (HNX.out.below hbe)
        obtain ⟨en, hen⟩ : ∃ en, en = wc.heap.size := ⟨_, rfl⟩
        have HEN : Hid (w1.heap.size ≤ en) := hid (by rw [hen]; have := HNX0.out.bel.size; omega)
        have HEQ : Hid (gq < en) := hid (by rw [hen]; exact HNX0.out.cq.lt)
        rw [← hen] at HE ⊢
        clear hen
        generalize wc.alloc (.cells #[.int .u64 0, .int .u64 0, .int .u16 0, .slice none 0 0] 33) = wc at *
        clear hbe
        try simp only [Act.put, List.setIfInBounds_toArray, List.set_cons_succ, List.set_cons_zero]
        refine wpAnyH_ready (rs := [5]) (by kernel_rfl) (by simp) ?_
        refine AllReadyH.cons (o := _) rfl (fun K hK => ?_) AllReadyH.nil
        go_simp
        go_at_call 41
        refine Calls.mono (HNX.out.next 2 HN.out HB.out (by decide) (by decide) (by omega) (by omega) hc hcm) ?_
        rintro e w9 ⟨rfl, hnx, hgr⟩
        have HE := hid ((hgr.block en (lt_of_block HE.out) (fun e => by injection e with e; have := HEQ.out; omega)).trans HE.out)
        have HNX0 := hid hnx
        have HNX := hid hnx
        clear hnx hgr
        rw [show numAt xs 12 2 = a2 from A2.out.symm]
        refine hK.out _ _ trivial (fun hHeld => ?_)
        clear hK K
        generalize w9 = wc at *
        try simp only [Act.put, List.setIfInBounds_toArray, List.set_cons_succ, List.set_cons_zero]
        refine wpAnyH_take (i := 6) (oi := { dst := some 24, op := Op.convert 27 30 (Operand.tmp 23), type := 30, pos := "ether.go:61", after := #[{ on := 5, ground := Ground.data }], guard := none }) (v := ?_) rfl (by kernel_rfl) (by kernel_rfl) (by kernel_rfl) (fun _ _ _ h => h) (Or.inl ⟨by rfl, ?_⟩) hHeld ?_
        rotate_left
        · (intro w2 hSw; go_simp; first | with_reducible rfl | skip)
        try simp only [Act.put, List.setIfInBounds_toArray, List.set_cons_succ, List.set_cons_zero]
        refine wpAnyH_ready (rs := [9]) (by kernel_rfl) (by simp) ?_
        refine AllReadyH.cons (o := _) rfl (fun K hK => ?_) AllReadyH.nil
        go_simp
        go_at_call 27
        refine Calls.mono (clone_calls (c - 14) (n - 14) (some ⟨b, o + 14, none⟩) (xs.drop 14) (by rw [List.length_drop, HN.out]) wc ((HNX.out.rd.below HNX.out.bel).drop 14) (by simp) (by omega)) ?_
        rintro e w9 ⟨vb, rfl, hob, hbb⟩
        have HE := hid ((hbb.block en (lt_of_block HE.out)).trans HE.out)
        have HBO := hid (show Own w9 w1.heap.size 5 .u8 vb (xs.drop 14) from hob.base w1.heap.size HNX.out.bel.size)
        have HNX := hid (HNX.out.below hbb)
        have HNX0 := HNX
        obtain ⟨Ab, nb, cb, rfl⟩ := hob.form
        clear hob hbb
        refine hK.out _ _ trivial (fun hHeld => ?_)
        clear hK K
        generalize w9 = wc at *
        try simp only [Act.put, List.setIfInBounds_toArray, List.set_cons_succ, List.set_cons_zero]
        refine wpAnyH_take (i := 10) (oi := { dst := some 28, op := Op.build 33 #[(0, Operand.tmp 19), (1, Operand.tmp 21), (2, Operand.tmp 24), (3, Operand.tmp 27)], type := 33, pos := "ether.go:61", after := #[{ on := 1, ground := Ground.data }, { on := 3, ground := Ground.data }, { on := 6, ground := Ground.data }, { on := 9, ground := Ground.data }], guard := none }) (v := .agg #[.int .u64 a0, .int .u64 a1, .int .u16 a2, .slice Ab nb cb]) rfl (by kernel_rfl) (by kernel_rfl) (by kernel_rfl) (fun _ _ _ h => h) (Or.inl ⟨by rfl, ?_⟩) hHeld ?_
        · (intro w2 hSw; go_simp)
        try simp only [Act.put, List.setIfInBounds_toArray, List.set_cons_succ, List.set_cons_zero]
        refine wpAnyH_ready (rs := [12]) (by kernel_rfl) (by simp) ?_
        refine AllReadyH.cons (o := _) rfl (fun K hK => ?_) AllReadyH.nil
        refine wp_store_row 33 (.tmp 5) (.tmp 28) rfl en #[.int .u64 a0, .int .u64 a1, .int .u16 a2, .slice Ab nb cb] rfl rfl 33 _ HE.out (by kernel_rfl) rfl (by kernel_rfl) ?_
        have hg := grown_setRow wc en #[.int .u64 a0, .int .u64 a1, .int .u16 a2, .slice Ab nb cb]
        have HW := hid (setRow_heap wc en _ #[.int .u64 a0, .int .u64 a1, .int .u16 a2, .slice Ab nb cb] 33 _ HE.out)
        have HBO := hid (HBO.out.kept hg (row_ne HBO.out HE.out (by decide)))
        have HBE := hid (below_setRow HNX.out.bel HEN.out #[.int .u64 a0, .int .u64 a1, .int .u16 a2, .slice Ab nb cb])
        refine hK.out _ _ trivial (fun hHeld => ?_)
        clear hK K hHeld hg HE
        generalize wc.setRow en #[.int .u64 a0, .int .u64 a1, .int .u16 a2, .slice Ab nb cb] = wc at *
        refine wpAnyH_done (by kernel_rfl) ?_ _
        have k2 : wc.cell? ⟨en, 2, none⟩ = some (.int .u16 a2) := cellOf HW.out rfl
        have ha2 : ¬ a2 < 1536 := by have := HK2.out; omega
        go_wp2_with (with_reducible refine hold_op (o := ⟨some 33, _, _, _, _, _⟩) ?_)
        have HR0 := hid ((HBE.out.block w.heap.size (lt_of_block HRES.out)).trans HRES.out)
        have HBF := hid (below_then HBE0.out HBE.out)
        clear k2 ha2 HRES HNX HNX0
        refine hid ?_
        refine wpList_load_row rfl 33 (.tmp 5) rfl en rfl 33 _ (0, 0) _ HW.out Try.underlying33 rfl (by kernel_rfl) ?_
        dsimp only [Act.put, List.setIfInBounds_toArray, List.set_cons_succ, List.set_cons_zero]
        refine wpList_store_row rfl 33 (.tmp 2) (.tmp 33) rfl w.heap.size #[.int .u64 a0, .int .u64 a1, .int .u16 a2, .slice Ab nb cb] rfl rfl 33 _ HR0.out (by kernel_rfl) rfl (by kernel_rfl) ?_
        have hg := grown_setRow wc w.heap.size #[.int .u64 a0, .int .u64 a1, .int .u16 a2, .slice Ab nb cb]
        have HW2 := hid (setRow_heap wc w.heap.size _ #[.int .u64 a0, .int .u64 a1, .int .u16 a2, .slice Ab nb cb] 33 _ HR0.out)
        have HBO := hid (HBO.out.kept hg (row_ne HBO.out HR0.out (by decide)))
        have HBG := hid (below_setRow HBF.out (Nat.le_refl _) #[.int .u64 a0, .int .u64 a1, .int .u16 a2, .slice Ab nb cb])
        clear hg HW HR0
        generalize wc.setRow w.heap.size #[.int .u64 a0, .int .u64 a1, .int .u16 a2, .slice Ab nb cb] = wc at *
        dsimp only [Act.put, List.setIfInBounds_toArray, List.set_cons_succ, List.set_cons_zero]
        go_wp2
        refine bodyPost_ret (v := .tuple #[.agg #[.int .u64 a0, .int .u64 a1, .int .u16 a2, .slice Ab nb cb], .int .i64 0]) ?_ rfl ⟨_, by rw [A0.out, A1.out, A2.out], HBO.out.base w.heap.size (by have := HBE0.out.size; omega), HBG.out⟩
        rw [results_cell_tmp (p := 2) (u := 3) rfl]
        refine (show _ = _ from ?_)
        show (Sem.run _ (asAddr (.pointer (some ⟨w.heap.size, 0, none⟩))) wc).andThen _ = _
        simp only [asAddr, Sem.run_pure, Result.andThen_ok, run_loadVar_row wc w.heap.size 33 33 _ (0, 0) _ HW2.out Try.underlying33 rfl (by kernel_rfl)]
        rfl

    · go_simp
      refine hK.out _ _ trivial (fun hHeld => ?_)
      clear hK K
      have hbe : Below wc.heap.size wc (wc.alloc (.cells #[.int .u64 0, .int .u64 0, .int .u16 0, .slice none 0 0] 33)) := (Below.refl _ _).alloc (Nat.le_refl _) _
      have HE := hid (show (wc.alloc (.cells #[.int .u64 0, .int .u64 0, .int .u16 0, .slice none 0 0] 33)).heap[wc.heap.size]? = some (.cells #[.int .u64 0, .int .u64 0, .int .u16 0, .slice none 0 0] 33 (0, 0)) from heap_alloc_new _ _)
      have HNX := hid (HNX.out.below hbe)
      obtain ⟨en, hen⟩ : ∃ en, en = wc.heap.size := ⟨_, rfl⟩
      have HEN : Hid (w1.heap.size ≤ en) := hid (by rw [hen]; have := HNX0.out.bel.size; omega)
      have HEQ : Hid (gq < en) := hid (by rw [hen]; exact HNX0.out.cq.lt)
      rw [← hen] at HE ⊢
      clear hen
      generalize wc.alloc (.cells #[.int .u64 0, .int .u64 0, .int .u16 0, .slice none 0 0] 33) = wc at *
      clear hbe
      try simp only [Act.put, List.setIfInBounds_toArray, List.set_cons_succ, List.set_cons_zero]
      refine wpAnyH_ready (rs := [3]) (by kernel_rfl) (by simp) ?_
      refine AllReadyH.cons (o := _) rfl (fun K hK => ?_) AllReadyH.nil
      go_simp
      go_at_call 41
      refine Calls.mono (HNX.out.next 6 HN.out HB.out (by decide) (by decide) (by omega) (by omega) hc hcm) ?_
      rintro e w9 ⟨rfl, hnx, hgr⟩
      have HE := hid ((hgr.block en (lt_of_block HE.out) (fun e => by injection e with e; have := HEQ.out; omega)).trans HE.out)
      have HNX0 := hid hnx
      have HNX := hid hnx
      clear hnx hgr
      rw [show numAt xs 6 6 = a1 from A1.out.symm]
      refine hK.out _ _ trivial (fun hHeld => ?_)
      clear hK K
      generalize w9 = wc at *
      try simp only [Act.put, List.setIfInBounds_toArray, List.set_cons_succ, List.set_cons_zero]
      refine wpAnyH_ready (rs := [5]) (by kernel_rfl) (by simp) ?_
      refine AllReadyH.cons (o := _) rfl (fun K hK => ?_) AllReadyH.nil
      go_simp
      go_at_call 41
      refine Calls.mono (HNX.out.next 2 HN.out HB.out (by decide) (by decide) (by omega) (by omega) hc hcm) ?_
      rintro e w9 ⟨rfl, hnx, hgr⟩
      have HE := hid ((hgr.block en (lt_of_block HE.out) (fun e => by injection e with e; have := HEQ.out; omega)).trans HE.out)
      have HNX0 := hid hnx
      have HNX := hid hnx
      clear hnx hgr
      rw [show numAt xs 12 2 = a2 from A2.out.symm]
      refine hK.out _ _ trivial (fun hHeld => ?_)
      clear hK K
      generalize w9 = wc at *
      try simp only [Act.put, List.setIfInBounds_toArray, List.set_cons_succ, List.set_cons_zero]
      refine wpAnyH_take (i := 6) (oi := { dst := some 24, op := Op.convert 27 30 (Operand.tmp 23), type := 30, pos := "ether.go:61", after := #[{ on := 5, ground := Ground.data }], guard := none }) (v := ?_) rfl (by kernel_rfl) (by kernel_rfl) (by kernel_rfl) (fun _ _ _ h => h) (Or.inl ⟨by rfl, ?_⟩) hHeld ?_
      rotate_left
      · (intro w2 hSw; go_simp; first | with_reducible rfl | skip)
      try simp only [Act.put, List.setIfInBounds_toArray, List.set_cons_succ, List.set_cons_zero]
      refine wpAnyH_ready (rs := [9]) (by kernel_rfl) (by simp) ?_
      refine AllReadyH.cons (o := _) rfl (fun K hK => ?_) AllReadyH.nil
      go_simp
      go_at_call 27
      refine Calls.mono (clone_calls (c - 14) (n - 14) (some ⟨b, o + 14, none⟩) (xs.drop 14) (by rw [List.length_drop, HN.out]) wc ((HNX.out.rd.below HNX.out.bel).drop 14) (by simp) (by omega)) ?_
      rintro e w9 ⟨vb, rfl, hob, hbb⟩
      have HE := hid ((hbb.block en (lt_of_block HE.out)).trans HE.out)
      have HBO := hid (show Own w9 w1.heap.size 5 .u8 vb (xs.drop 14) from hob.base w1.heap.size HNX.out.bel.size)
      have HNX := hid (HNX.out.below hbb)
      have HNX0 := HNX
      obtain ⟨Ab, nb, cb, rfl⟩ := hob.form
      clear hob hbb
      refine hK.out _ _ trivial (fun hHeld => ?_)
      clear hK K
      generalize w9 = wc at *
      try simp only [Act.put, List.setIfInBounds_toArray, List.set_cons_succ, List.set_cons_zero]
      refine wpAnyH_take (i := 10) (oi := { dst := some 28, op := Op.build 33 #[(0, Operand.tmp 19), (1, Operand.tmp 21), (2, Operand.tmp 24), (3, Operand.tmp 27)], type := 33, pos := "ether.go:61", after := #[{ on := 1, ground := Ground.data }, { on := 3, ground := Ground.data }, { on := 6, ground := Ground.data }, { on := 9, ground := Ground.data }], guard := none }) (v := .agg #[.int .u64 a0, .int .u64 a1, .int .u16 a2, .slice Ab nb cb]) rfl (by kernel_rfl) (by kernel_rfl) (by kernel_rfl) (fun _ _ _ h => h) (Or.inl ⟨by rfl, ?_⟩) hHeld ?_
      · (intro w2 hSw; go_simp)
      try simp only [Act.put, List.setIfInBounds_toArray, List.set_cons_succ, List.set_cons_zero]
      refine wpAnyH_ready (rs := [12]) (by kernel_rfl) (by simp) ?_
      refine AllReadyH.cons (o := _) rfl (fun K hK => ?_) AllReadyH.nil
      refine wp_store_row 33 (.tmp 5) (.tmp 28) rfl en #[.int .u64 a0, .int .u64 a1, .int .u16 a2, .slice Ab nb cb] rfl rfl 33 _ HE.out (by kernel_rfl) rfl (by kernel_rfl) ?_
      have hg := grown_setRow wc en #[.int .u64 a0, .int .u64 a1, .int .u16 a2, .slice Ab nb cb]
      have HW := hid (setRow_heap wc en _ #[.int .u64 a0, .int .u64 a1, .int .u16 a2, .slice Ab nb cb] 33 _ HE.out)
      have HBO := hid (HBO.out.kept hg (row_ne HBO.out HE.out (by decide)))
      have HBE := hid (below_setRow HNX.out.bel HEN.out #[.int .u64 a0, .int .u64 a1, .int .u16 a2, .slice Ab nb cb])
      refine hK.out _ _ trivial (fun hHeld => ?_)
      clear hK K hHeld hg HE
      generalize wc.setRow en #[.int .u64 a0, .int .u64 a1, .int .u16 a2, .slice Ab nb cb] = wc at *
      refine wpAnyH_done (by kernel_rfl) ?_ _
      have k2 : wc.cell? ⟨en, 2, none⟩ = some (.int .u16 a2) := cellOf HW.out rfl
      have ha2 : ¬ a2 < 1536 := by have := HK2.out; omega
      go_wp2_with (with_reducible refine hold_op (o := ⟨some 33, _, _, _, _, _⟩) ?_)
      have HR0 := hid ((HBE.out.block w.heap.size (lt_of_block HRES.out)).trans HRES.out)
      have HBF := hid (below_then HBE0.out HBE.out)
      clear k2 ha2 HRES HNX HNX0
      refine hid ?_
      refine wpList_load_row rfl 33 (.tmp 5) rfl en rfl 33 _ (0, 0) _ HW.out Try.underlying33 rfl (by kernel_rfl) ?_
      dsimp only [Act.put, List.setIfInBounds_toArray, List.set_cons_succ, List.set_cons_zero]
      refine wpList_store_row rfl 33 (.tmp 2) (.tmp 33) rfl w.heap.size #[.int .u64 a0, .int .u64 a1, .int .u16 a2, .slice Ab nb cb] rfl rfl 33 _ HR0.out (by kernel_rfl) rfl (by kernel_rfl) ?_
      have hg := grown_setRow wc w.heap.size #[.int .u64 a0, .int .u64 a1, .int .u16 a2, .slice Ab nb cb]
      have HW2 := hid (setRow_heap wc w.heap.size _ #[.int .u64 a0, .int .u64 a1, .int .u16 a2, .slice Ab nb cb] 33 _ HR0.out)
      have HBO := hid (HBO.out.kept hg (row_ne HBO.out HR0.out (by decide)))
      have HBG := hid (below_setRow HBF.out (Nat.le_refl _) #[.int .u64 a0, .int .u64 a1, .int .u16 a2, .slice Ab nb cb])
      clear hg HW HR0
      generalize wc.setRow w.heap.size #[.int .u64 a0, .int .u64 a1, .int .u16 a2, .slice Ab nb cb] = wc at *
      dsimp only [Act.put, List.setIfInBounds_toArray, List.set_cons_succ, List.set_cons_zero]
      go_wp2
      refine bodyPost_ret (v := .tuple #[.agg #[.int .u64 a0, .int .u64 a1, .int .u16 a2, .slice Ab nb cb], .int .i64 0]) ?_ rfl ⟨_, by rw [A0.out, A1.out, A2.out], HBO.out.base w.heap.size (by have := HBE0.out.size; omega), HBG.out⟩
      rw [results_cell_tmp (p := 2) (u := 3) rfl]
      refine (show _ = _ from ?_)
      show (Sem.run _ (asAddr (.pointer (some ⟨w.heap.size, 0, none⟩))) wc).andThen _ = _
      simp only [asAddr, Sem.run_pure, Result.andThen_ok, run_loadVar_row wc w.heap.size 33 33 _ (0, 0) _ HW2.out Try.underlying33 rfl (by kernel_rfl)]
      rfl

  · go_simp
    refine hK.out _ _ trivial (fun hHeld => ?_)
    clear hK K
    have hbe : Below wc.heap.size wc (wc.alloc (.cells #[.int .u64 0, .int .u64 0, .int .u16 0, .slice none 0 0] 33)) := (Below.refl _ _).alloc (Nat.le_refl _) _
    have HE := hid (show (wc.alloc (.cells #[.int .u64 0, .int .u64 0, .int .u16 0, .slice none 0 0] 33)).heap[wc.heap.size]? = some (.cells #[.int .u64 0, .int .u64 0, .int .u16 0, .slice none 0 0] 33 (0, 0)) from heap_alloc_new _ _)
    have HNX := hid (HNX.out.below hbe)
    obtain ⟨en, hen⟩ : ∃ en, en = wc.heap.size := ⟨_, rfl⟩
    have HEN : Hid (w1.heap.size ≤ en) := hid (by rw [hen]; have := HNX0.out.bel.size; omega)
    have HEQ : Hid (gq < en) := hid (by rw [hen]; exact HNX0.out.cq.lt)
    rw [← hen] at HE ⊢
    clear hen
    generalize wc.alloc (.cells #[.int .u64 0, .int .u64 0, .int .u16 0, .slice none 0 0] 33) = wc at *
    clear hbe
    try simp only [Act.put, List.setIfInBounds_toArray, List.set_cons_succ, List.set_cons_zero]
    refine wpAnyH_ready (rs := [1]) (by kernel_rfl) (by simp) ?_
    refine AllReadyH.cons (o := _) rfl (fun K hK => ?_) AllReadyH.nil
    go_simp
    go_at_call 41
    refine Calls.mono (HNX.out.next 6 HN.out HB.out (by decide) (by decide) (by omega) (by omega) hc hcm) ?_
    rintro e w9 ⟨rfl, hnx, hgr⟩
    have HE := hid ((hgr.block en (lt_of_block HE.out) (fun e => by injection e with e; have := HEQ.out; omega)).trans HE.out)
    have HNX0 := hid hnx
    have HNX := hid hnx
    clear hnx hgr
    rw [show numAt xs 0 6 = a0 from A0.out.symm]
    refine hK.out _ _ trivial (fun hHeld => ?_)
    clear hK K
    generalize w9 = wc at *
    try simp only [Act.put, List.setIfInBounds_toArray, List.set_cons_succ, List.set_cons_zero]
    refine wpAnyH_ready (rs := [3]) (by kernel_rfl) (by simp) ?_
    refine AllReadyH.cons (o := _) rfl (fun K hK => ?_) AllReadyH.nil
    go_simp
    go_at_call 41
    refine Calls.mono (HNX.out.next 6 HN.out HB.out (by decide) (by decide) (by omega) (by omega) hc hcm) ?_
    rintro e w9 ⟨rfl, hnx, hgr⟩
    have HE := hid ((hgr.block en (lt_of_block HE.out) (fun e => by injection e with e; have := HEQ.out; omega)).trans HE.out)
    have HNX0 := hid hnx
    have HNX := hid hnx
    clear hnx hgr
    rw [show numAt xs 6 6 = a1 from A1.out.symm]
    refine hK.out _ _ trivial (fun hHeld => ?_)
    clear hK K
    generalize w9 = wc at *
    try simp only [Act.put, List.setIfInBounds_toArray, List.set_cons_succ, List.set_cons_zero]
    refine wpAnyH_ready (rs := [5]) (by kernel_rfl) (by simp) ?_
    refine AllReadyH.cons (o := _) rfl (fun K hK => ?_) AllReadyH.nil
    go_simp
    go_at_call 41
    refine Calls.mono (HNX.out.next 2 HN.out HB.out (by decide) (by decide) (by omega) (by omega) hc hcm) ?_
    rintro e w9 ⟨rfl, hnx, hgr⟩
    have HE := hid ((hgr.block en (lt_of_block HE.out) (fun e => by injection e with e; have := HEQ.out; omega)).trans HE.out)
    have HNX0 := hid hnx
    have HNX := hid hnx
    clear hnx hgr
    rw [show numAt xs 12 2 = a2 from A2.out.symm]
    refine hK.out _ _ trivial (fun hHeld => ?_)
    clear hK K
    generalize w9 = wc at *
    try simp only [Act.put, List.setIfInBounds_toArray, List.set_cons_succ, List.set_cons_zero]
    refine wpAnyH_take (i := 6) (oi := { dst := some 24, op := Op.convert 27 30 (Operand.tmp 23), type := 30, pos := "ether.go:61", after := #[{ on := 5, ground := Ground.data }], guard := none }) (v := ?_) rfl (by kernel_rfl) (by kernel_rfl) (by kernel_rfl) (fun _ _ _ h => h) (Or.inl ⟨by rfl, ?_⟩) hHeld ?_
    rotate_left
    · (intro w2 hSw; go_simp; first | with_reducible rfl | skip)
    try simp only [Act.put, List.setIfInBounds_toArray, List.set_cons_succ, List.set_cons_zero]
    refine wpAnyH_ready (rs := [9]) (by kernel_rfl) (by simp) ?_
    refine AllReadyH.cons (o := _) rfl (fun K hK => ?_) AllReadyH.nil
    go_simp
    go_at_call 27
    refine Calls.mono (clone_calls (c - 14) (n - 14) (some ⟨b, o + 14, none⟩) (xs.drop 14) (by rw [List.length_drop, HN.out]) wc ((HNX.out.rd.below HNX.out.bel).drop 14) (by simp) (by omega)) ?_
    rintro e w9 ⟨vb, rfl, hob, hbb⟩
    have HE := hid ((hbb.block en (lt_of_block HE.out)).trans HE.out)
    have HBO := hid (show Own w9 w1.heap.size 5 .u8 vb (xs.drop 14) from hob.base w1.heap.size HNX.out.bel.size)
    have HNX := hid (HNX.out.below hbb)
    have HNX0 := HNX
    obtain ⟨Ab, nb, cb, rfl⟩ := hob.form
    clear hob hbb
    refine hK.out _ _ trivial (fun hHeld => ?_)
    clear hK K
    generalize w9 = wc at *
    try simp only [Act.put, List.setIfInBounds_toArray, List.set_cons_succ, List.set_cons_zero]
    refine wpAnyH_take (i := 10) (oi := { dst := some 28, op := Op.build 33 #[(0, Operand.tmp 19), (1, Operand.tmp 21), (2, Operand.tmp 24), (3, Operand.tmp 27)], type := 33, pos := "ether.go:61", after := #[{ on := 1, ground := Ground.data }, { on := 3, ground := Ground.data }, { on := 6, ground := Ground.data }, { on := 9, ground := Ground.data }], guard := none }) (v := .agg #[.int .u64 a0, .int .u64 a1, .int .u16 a2, .slice Ab nb cb]) rfl (by kernel_rfl) (by kernel_rfl) (by kernel_rfl) (fun _ _ _ h => h) (Or.inl ⟨by rfl, ?_⟩) hHeld ?_
    · (intro w2 hSw; go_simp)
    try simp only [Act.put, List.setIfInBounds_toArray, List.set_cons_succ, List.set_cons_zero]
    refine wpAnyH_ready (rs := [12]) (by kernel_rfl) (by simp) ?_
    refine AllReadyH.cons (o := _) rfl (fun K hK => ?_) AllReadyH.nil
    refine wp_store_row 33 (.tmp 5) (.tmp 28) rfl en #[.int .u64 a0, .int .u64 a1, .int .u16 a2, .slice Ab nb cb] rfl rfl 33 _ HE.out (by kernel_rfl) rfl (by kernel_rfl) ?_
    have hg := grown_setRow wc en #[.int .u64 a0, .int .u64 a1, .int .u16 a2, .slice Ab nb cb]
    have HW := hid (setRow_heap wc en _ #[.int .u64 a0, .int .u64 a1, .int .u16 a2, .slice Ab nb cb] 33 _ HE.out)
    have HBO := hid (HBO.out.kept hg (row_ne HBO.out HE.out (by decide)))
    have HBE := hid (below_setRow HNX.out.bel HEN.out #[.int .u64 a0, .int .u64 a1, .int .u16 a2, .slice Ab nb cb])
    refine hK.out _ _ trivial (fun hHeld => ?_)
    clear hK K hHeld hg HE
    generalize wc.setRow en #[.int .u64 a0, .int .u64 a1, .int .u16 a2, .slice Ab nb cb] = wc at *
    refine wpAnyH_done (by kernel_rfl) ?_ _
    have k2 : wc.cell? ⟨en, 2, none⟩ = some (.int .u16 a2) := cellOf HW.out rfl
    have ha2 : ¬ a2 < 1536 := by have := HK2.out; omega
    go_wp2_with (with_reducible refine hold_op (o := ⟨some 33, _, _, _, _, _⟩) ?_)
    have HR0 := hid ((HBE.out.block w.heap.size (lt_of_block HRES.out)).trans HRES.out)
    have HBF := hid (below_then HBE0.out HBE.out)
    clear k2 ha2 HRES HNX HNX0
    refine hid ?_
    refine wpList_load_row rfl 33 (.tmp 5) rfl en rfl 33 _ (0, 0) _ HW.out Try.underlying33 rfl (by kernel_rfl) ?_
    dsimp only [Act.put, List.setIfInBounds_toArray, List.set_cons_succ, List.set_cons_zero]
    refine wpList_store_row rfl 33 (.tmp 2) (.tmp 33) rfl w.heap.size #[.int .u64 a0, .int .u64 a1, .int .u16 a2, .slice Ab nb cb] rfl rfl 33 _ HR0.out (by kernel_rfl) rfl (by kernel_rfl) ?_
    have hg := grown_setRow wc w.heap.size #[.int .u64 a0, .int .u64 a1, .int .u16 a2, .slice Ab nb cb]
    have HW2 := hid (setRow_heap wc w.heap.size _ #[.int .u64 a0, .int .u64 a1, .int .u16 a2, .slice Ab nb cb] 33 _ HR0.out)
    have HBO := hid (HBO.out.kept hg (row_ne HBO.out HR0.out (by decide)))
    have HBG := hid (below_setRow HBF.out (Nat.le_refl _) #[.int .u64 a0, .int .u64 a1, .int .u16 a2, .slice Ab nb cb])
    clear hg HW HR0
    generalize wc.setRow w.heap.size #[.int .u64 a0, .int .u64 a1, .int .u16 a2, .slice Ab nb cb] = wc at *
    dsimp only [Act.put, List.setIfInBounds_toArray, List.set_cons_succ, List.set_cons_zero]
    go_wp2
    refine bodyPost_ret (v := .tuple #[.agg #[.int .u64 a0, .int .u64 a1, .int .u16 a2, .slice Ab nb cb], .int .i64 0]) ?_ rfl ⟨_, by rw [A0.out, A1.out, A2.out], HBO.out.base w.heap.size (by have := HBE0.out.size; omega), HBG.out⟩
    rw [results_cell_tmp (p := 2) (u := 3) rfl]
    refine (show _ = _ from ?_)
    show (Sem.run _ (asAddr (.pointer (some ⟨w.heap.size, 0, none⟩))) wc).andThen _ = _
    simp only [asAddr, Sem.run_pure, Result.andThen_ok, run_loadVar_row wc w.heap.size 33 33 _ (0, 0) _ HW2.out Try.underlying33 rfl (by kernel_rfl)]
    rfl

end Go.Proofs.Ytebfoigbiekeiaa
