/-
  LAYER 5, WALKS: hash.Mac.
-/
import Derived.Test.YtaieajfgcnaedaaDoorHashF
set_option linter.unusedVariables false
set_option linter.unusedSimpArgs false
namespace Go.Proofs.YtaieajfgcnaedaaDoor
open Go.RowKit

theorem Rd.src {w : World} {k : IntKind} {A : Option Addr} {xs : List Int} (h : Rd w k A xs) (hp : 0 < xs.length) : ∃ ad, A = some ad ∧ ∀ j v, (xs.map (Value.int k))[j]? = some v → w.cell? (ad.add j) = some v := by
  obtain ⟨b, o, rfl, _⟩ := h.form 0 hp
  refine ⟨_, rfl, fun j v hj => ?_⟩
  rw [WideShapes.add_plain]
  rcases Nat.lt_or_ge j xs.length with hl | hl
  · rw [h.cell j hl]
    simp [List.getElem?_map, List.getElem?_eq_getElem hl] at hj
    rw [← hj]; simp [List.getD_eq_getElem?_getD, hl]
  · simp [List.getElem?_eq_none hl] at hj
theorem Rd.row {w : World} {k : IntKind} {g : Nat} {t : TypeId} {xs : List Int} (h : w.heap[g]? = some (.cells ((xs.map (Value.int k)).toArray) t (0, 0))) (hl : xs.length ≤ 140737488355328) : Rd w k (some ⟨g, 0, none⟩) xs :=
  ⟨hl, fun j hj => ⟨g, 0, rfl, lt_of_block h, by
    rw [Nat.zero_add]
    refine cellOf h ?_
    simp [List.getElem?_map, List.getElem?_eq_getElem hj, List.getD_eq_getElem?_getD]⟩⟩
/-- 'copy' into a block that is known whole; all others stay. -/
theorem wpList_copy_grown {P : Program} {w : World} {ops : Array Oper} {rest : List Oper} {o : Oper} {a : Act} {Q : Exit → Act → World → Prop} (hgd : o.guard = none) (d s : Operand) (dT sT : TypeId)
    (ho : o.op = .call { callee := .builtin .copy, args := #[d, s], argTypes := #[dT, sT] }) (elem : TypeId) (hu : P.underlying dT = some (.slice elem)) (hsz : (P.info? elem).map (·.size) = some 1)
    (dp sp : Option Addr) (dLen dCap sLen sCap : Nat) (hd : a.eval d = .slice dp dLen dCap) (hs : a.eval s = .slice sp sLen sCap)
    (g off : Nat) (cur : List Value) (t : TypeId) (hg : w.heap[g]? = some (.cells cur.toArray t (0, 0))) (cs : List Value) (hn : cs.length = Nat.min sLen dLen)
    (hpos : 0 < cs.length → dp = some ⟨g, off, none⟩ ∧ ∃ ad, sp = some ad ∧ ∀ j v, cs[j]? = some v → w.cell? (ad.add j) = some v)
    (hfit : off + cs.length ≤ cur.length) (h1 : ∀ v ∈ cs, v.oneCell' = true)
    (h : ∀ w', Hid (w'.heap[g]? = some (.cells (splice cur off cs).toArray t (0, 0))) → w.grownBy w' (some g) → wpList P ops Q rest (a.put o.dst (goInt cs.length)) w') :
    wpList P ops Q (o :: rest) a w := by
  by_cases h0 : cs.length = 0
  · obtain rfl : cs = [] := List.eq_nil_of_length_eq_zero h0
    refine wpList_copy_nothing hgd d s dT sT ho elem hu hsz dp sp dLen dCap sLen sCap hd hs (by simpa using hn.symm) ?_
    exact h w (show _ = _ by simpa [splice] using hg) (World.grownBy.refl _ _)
  · obtain ⟨rfl, ad, rfl, hsrc⟩ := hpos (by omega)
    refine wpList_copy_own hgd d s dT sT ho elem hu hsz g off dLen dCap ad sLen sCap hd hs cur.toArray t hg cs hn hsrc (by simpa using hfit) h1 ?_
    exact h _ (show _ = _ by simpa [splice] using setRow_heap w g _ _ t _ hg) ⟨rfl, rfl, rfl, by simp [World.setRow], fun q hq hne => setRow_other w g q _ (fun e => hne (by rw [e]))⟩
theorem IsH.kept {w w' : World} {g : Nat} {v : V8} {r : Value} {n : Int} (h : IsH w g v r n) {row : Option Nat} (hg : w.grownBy w' row) (hne : some g ≠ row) : IsH w' g v r n := by
  unfold IsH at h ⊢
  rw [hg.block g (lt_of_block h) hne]; exact h
def xorTo (K : List Int) (c : Int) (k : Nat) : List Int := (K.take k).map (xorI · c) ++ K.drop k
theorem xorTo_zero (K : List Int) (c : Int) : xorTo K c 0 = K := rfl
theorem xorTo_all (K : List Int) (c : Int) (k : Nat) (h : K.length = k) : xorTo K c k = K.map (xorI · c) := by simp [xorTo, ← h]
theorem xorTo_len (K : List Int) (c : Int) (k : Nat) : (xorTo K c k).length = K.length := by simp [xorTo]; omega
theorem xorTo_at (K : List Int) (c : Int) (k : Nat) (h : k < K.length) : (((xorTo K c k).map (Value.int .u8)).toArray)[k]? = some (.int .u8 (K.getD k 0)) := by
  have : min k K.length = k := by omega
  simp [xorTo, List.getElem?_append_right, this, List.getD_eq_getElem?_getD, h]
theorem xorTo_set (K : List Int) (c : Int) (k : Nat) (h : k < K.length) : (((xorTo K c k).map (Value.int .u8)).toArray).setIfInBounds k (.int .u8 (xorI (K.getD k 0) c)) = ((xorTo K c (k + 1)).map (Value.int .u8)).toArray := by
  apply Array.ext'
  simp only [Array.toList_setIfInBounds, xorTo]
  rw [List.take_succ_eq_append_getElem h, List.drop_eq_getElem_cons h]
  simp only [List.map_append, List.map_cons, List.map_nil]
  have : ((K.take k).map (xorI · c)).length = k := by simp; omega
  rw [List.set_append_right _ _ (by simp; omega)]
  simp [List.getD_eq_getElem?_getD, h, show min k K.length = k by omega]
theorem xorI_eq (x : Int) (c : Nat) (h0 : 0 ≤ x) : bits .xor .u8 x (c : Int) = xorI x (c : Int) := by
  obtain ⟨x, rfl⟩ := Int.eq_ofNat_of_zero_le h0
  have wrap8 : ∀ B : BitVec 8, IntKind.u8.wrap (B.toNat : Int) = (B.toNat : Int) := fun B => by
    have := B.isLt
    rw [IntKind.wrap_u8]; omega
  unfold xorI
  simp only [bits, IntKind.bits]
  exact wrap8 _
theorem xorI_bytes (K : List Int) (c : Int) : Bytes (K.map (xorI · c)) := by
  intro x hx
  obtain ⟨y, _, rfl⟩ := List.mem_map.1 hx
  have := (BitVec.ofInt 8 y ^^^ BitVec.ofInt 8 c).isLt
  unfold xorI
  omega
theorem splice_pad (xs : List Int) (n : Nat) (h : xs.length ≤ n) : splice ((List.replicate n 0).map (Value.int .u8)) 0 (xs.map (Value.int .u8)) = (xs ++ List.replicate (n - xs.length) 0).map (Value.int .u8) := by
  simp [splice]
theorem map_one (xs : List Int) : ((xs.map (Value.int .u8)).toArray).all (·.oneCell') = true := by simp [Value.oneCell', List.all_map]
theorem keyOf_len (key : List Int) : (keyOf key).length = 64 := by
  unfold keyOf
  split
  · simp [sha_len]
  · simp; omega
set_option maxHeartbeats 12800000 in
set_option maxRecDepth 100000 in
theorem mac_calls (ck nk c n : Nat) (Ak A : Option Addr) (key bs : List Int) (hnk : key.length = nk) (hn : bs.length = n) (w : World) (hT : Tab w) (hRk : Rd w .u8 Ak key) (hR : Rd w .u8 A bs) (hAk : Ak = none → ck = 0) (hA : A = none → c = 0) (hbk : Bytes key) (hb : Bytes bs) (hmk : nk ≤ 140737488353000) (hm : n ≤ 140737488353000) :
    Calls Tryd.prog 17 #[.slice Ak nk ck, .slice A n c] w fun e w' => e = .returned (.agg (((mac key bs).map (Value.int .u8)).toArray)) ∧ Below w.heap.size w w' := by
  have HT := hid hT; have HRk := hid hRk; have HR := hid hR; have HAk := hid hAk; have HA := hid hA; have HBk := hid hbk; have HBb := hid hb; have HNk := hid hnk; have HN := hid hn
  clear hT hRk hR hAk hA hbk hb hnk hn
  go_enter Tryd.func17, Tryd.ntmps17
  by_cases hlong : 64 < nk
  · have hli : (64 : Int) < (nk : Int) := by omega
    go_wp2_with (go_at_call 15; refine hold ?_)
    have hO0 : (w.alloc (.cells #[Value.int IntKind.u8 0, Value.int IntKind.u8 0, Value.int IntKind.u8 0, Value.int IntKind.u8 0, Value.int IntKind.u8 0, Value.int IntKind.u8 0, Value.int IntKind.u8 0, Value.int IntKind.u8 0, Value.int IntKind.u8 0, Value.int IntKind.u8 0, Value.int IntKind.u8 0, Value.int IntKind.u8 0, Value.int IntKind.u8 0, Value.int IntKind.u8 0, Value.int IntKind.u8 0, Value.int IntKind.u8 0, Value.int IntKind.u8 0, Value.int IntKind.u8 0, Value.int IntKind.u8 0, Value.int IntKind.u8 0, Value.int IntKind.u8 0, Value.int IntKind.u8 0, Value.int IntKind.u8 0, Value.int IntKind.u8 0, Value.int IntKind.u8 0, Value.int IntKind.u8 0, Value.int IntKind.u8 0, Value.int IntKind.u8 0, Value.int IntKind.u8 0, Value.int IntKind.u8 0, Value.int IntKind.u8 0, Value.int IntKind.u8 0] 24)).heap[w.heap.size]? = some (.cells #[Value.int IntKind.u8 0, Value.int IntKind.u8 0, Value.int IntKind.u8 0, Value.int IntKind.u8 0, Value.int IntKind.u8 0, Value.int IntKind.u8 0, Value.int IntKind.u8 0, Value.int IntKind.u8 0, Value.int IntKind.u8 0, Value.int IntKind.u8 0, Value.int IntKind.u8 0, Value.int IntKind.u8 0, Value.int IntKind.u8 0, Value.int IntKind.u8 0, Value.int IntKind.u8 0, Value.int IntKind.u8 0, Value.int IntKind.u8 0, Value.int IntKind.u8 0, Value.int IntKind.u8 0, Value.int IntKind.u8 0, Value.int IntKind.u8 0, Value.int IntKind.u8 0, Value.int IntKind.u8 0, Value.int IntKind.u8 0, Value.int IntKind.u8 0, Value.int IntKind.u8 0, Value.int IntKind.u8 0, Value.int IntKind.u8 0, Value.int IntKind.u8 0, Value.int IntKind.u8 0, Value.int IntKind.u8 0, Value.int IntKind.u8 0] 24 (0, 0)) := heap_alloc_new _ _
    have hB0 : Below w.heap.size w (w.alloc (.cells #[Value.int IntKind.u8 0, Value.int IntKind.u8 0, Value.int IntKind.u8 0, Value.int IntKind.u8 0, Value.int IntKind.u8 0, Value.int IntKind.u8 0, Value.int IntKind.u8 0, Value.int IntKind.u8 0, Value.int IntKind.u8 0, Value.int IntKind.u8 0, Value.int IntKind.u8 0, Value.int IntKind.u8 0, Value.int IntKind.u8 0, Value.int IntKind.u8 0, Value.int IntKind.u8 0, Value.int IntKind.u8 0, Value.int IntKind.u8 0, Value.int IntKind.u8 0, Value.int IntKind.u8 0, Value.int IntKind.u8 0, Value.int IntKind.u8 0, Value.int IntKind.u8 0, Value.int IntKind.u8 0, Value.int IntKind.u8 0, Value.int IntKind.u8 0, Value.int IntKind.u8 0, Value.int IntKind.u8 0, Value.int IntKind.u8 0, Value.int IntKind.u8 0, Value.int IntKind.u8 0, Value.int IntKind.u8 0, Value.int IntKind.u8 0] 24)) := (Below.refl _ _).alloc (Nat.le_refl _) _
    have HO0 := hid hO0; have HB0 := hid hB0
    clear hO0 hB0
    generalize w.alloc (.cells #[Value.int IntKind.u8 0, Value.int IntKind.u8 0, Value.int IntKind.u8 0, Value.int IntKind.u8 0, Value.int IntKind.u8 0, Value.int IntKind.u8 0, Value.int IntKind.u8 0, Value.int IntKind.u8 0, Value.int IntKind.u8 0, Value.int IntKind.u8 0, Value.int IntKind.u8 0, Value.int IntKind.u8 0, Value.int IntKind.u8 0, Value.int IntKind.u8 0, Value.int IntKind.u8 0, Value.int IntKind.u8 0, Value.int IntKind.u8 0, Value.int IntKind.u8 0, Value.int IntKind.u8 0, Value.int IntKind.u8 0, Value.int IntKind.u8 0, Value.int IntKind.u8 0, Value.int IntKind.u8 0, Value.int IntKind.u8 0, Value.int IntKind.u8 0, Value.int IntKind.u8 0, Value.int IntKind.u8 0, Value.int IntKind.u8 0, Value.int IntKind.u8 0, Value.int IntKind.u8 0, Value.int IntKind.u8 0, Value.int IntKind.u8 0] 24) = wa at *
    refine hid ?_
    refine Calls.mono (sum_calls ck nk Ak key HNk.out wa (HT.out.below HB0.out) (HRk.out.below HB0.out) HAk.out HBk.out (by omega)) ?_
    rintro e wb ⟨rfl, hBb⟩
    have HBw := hid (below_then HB0.out hBb)
    have HOb : Hid (wb.heap[w.heap.size]? = _) := hid ((hBb.block _ (lt_of_block HO0.out)).trans HO0.out)
    clear hBb HB0 HO0
    obtain ⟨R, hRR⟩ : ∃ R, R = shaV key := ⟨_, rfl⟩
    rw [← hRR]
    have HRR : Box (R = shaV key) := ⟨hRR⟩
    have HHS : Hid (R.size = 32) := hid (by rw [hRR]; exact sha_size _)
    have HHO : Hid (R.all (·.oneCell') = true) := hid (by rw [hRR]; exact sha_one _)
    clear hRR
    go_wp2_with (with_reducible refine hold_op (o := ⟨none, _, _, _, _, _⟩) ?_)
    have hO1 : (wb.alloc (.cells #[Value.int IntKind.u8 0, Value.int IntKind.u8 0, Value.int IntKind.u8 0, Value.int IntKind.u8 0, Value.int IntKind.u8 0, Value.int IntKind.u8 0, Value.int IntKind.u8 0, Value.int IntKind.u8 0, Value.int IntKind.u8 0, Value.int IntKind.u8 0, Value.int IntKind.u8 0, Value.int IntKind.u8 0, Value.int IntKind.u8 0, Value.int IntKind.u8 0, Value.int IntKind.u8 0, Value.int IntKind.u8 0, Value.int IntKind.u8 0, Value.int IntKind.u8 0, Value.int IntKind.u8 0, Value.int IntKind.u8 0, Value.int IntKind.u8 0, Value.int IntKind.u8 0, Value.int IntKind.u8 0, Value.int IntKind.u8 0, Value.int IntKind.u8 0, Value.int IntKind.u8 0, Value.int IntKind.u8 0, Value.int IntKind.u8 0, Value.int IntKind.u8 0, Value.int IntKind.u8 0, Value.int IntKind.u8 0, Value.int IntKind.u8 0] 24)).heap[wb.heap.size]? = some (.cells #[Value.int IntKind.u8 0, Value.int IntKind.u8 0, Value.int IntKind.u8 0, Value.int IntKind.u8 0, Value.int IntKind.u8 0, Value.int IntKind.u8 0, Value.int IntKind.u8 0, Value.int IntKind.u8 0, Value.int IntKind.u8 0, Value.int IntKind.u8 0, Value.int IntKind.u8 0, Value.int IntKind.u8 0, Value.int IntKind.u8 0, Value.int IntKind.u8 0, Value.int IntKind.u8 0, Value.int IntKind.u8 0, Value.int IntKind.u8 0, Value.int IntKind.u8 0, Value.int IntKind.u8 0, Value.int IntKind.u8 0, Value.int IntKind.u8 0, Value.int IntKind.u8 0, Value.int IntKind.u8 0, Value.int IntKind.u8 0, Value.int IntKind.u8 0, Value.int IntKind.u8 0, Value.int IntKind.u8 0, Value.int IntKind.u8 0, Value.int IntKind.u8 0, Value.int IntKind.u8 0, Value.int IntKind.u8 0, Value.int IntKind.u8 0] 24 (0, 0)) := heap_alloc_new _ _
    have hB1 : Below wb.heap.size wb (wb.alloc (.cells #[Value.int IntKind.u8 0, Value.int IntKind.u8 0, Value.int IntKind.u8 0, Value.int IntKind.u8 0, Value.int IntKind.u8 0, Value.int IntKind.u8 0, Value.int IntKind.u8 0, Value.int IntKind.u8 0, Value.int IntKind.u8 0, Value.int IntKind.u8 0, Value.int IntKind.u8 0, Value.int IntKind.u8 0, Value.int IntKind.u8 0, Value.int IntKind.u8 0, Value.int IntKind.u8 0, Value.int IntKind.u8 0, Value.int IntKind.u8 0, Value.int IntKind.u8 0, Value.int IntKind.u8 0, Value.int IntKind.u8 0, Value.int IntKind.u8 0, Value.int IntKind.u8 0, Value.int IntKind.u8 0, Value.int IntKind.u8 0, Value.int IntKind.u8 0, Value.int IntKind.u8 0, Value.int IntKind.u8 0, Value.int IntKind.u8 0, Value.int IntKind.u8 0, Value.int IntKind.u8 0, Value.int IntKind.u8 0, Value.int IntKind.u8 0] 24)) := (Below.refl _ _).alloc (Nat.le_refl _) _
    have HO1 := hid hO1; have HB1 := hid hB1
    clear hO1 hB1
    generalize wb.alloc (.cells #[Value.int IntKind.u8 0, Value.int IntKind.u8 0, Value.int IntKind.u8 0, Value.int IntKind.u8 0, Value.int IntKind.u8 0, Value.int IntKind.u8 0, Value.int IntKind.u8 0, Value.int IntKind.u8 0, Value.int IntKind.u8 0, Value.int IntKind.u8 0, Value.int IntKind.u8 0, Value.int IntKind.u8 0, Value.int IntKind.u8 0, Value.int IntKind.u8 0, Value.int IntKind.u8 0, Value.int IntKind.u8 0, Value.int IntKind.u8 0, Value.int IntKind.u8 0, Value.int IntKind.u8 0, Value.int IntKind.u8 0, Value.int IntKind.u8 0, Value.int IntKind.u8 0, Value.int IntKind.u8 0, Value.int IntKind.u8 0, Value.int IntKind.u8 0, Value.int IntKind.u8 0, Value.int IntKind.u8 0, Value.int IntKind.u8 0, Value.int IntKind.u8 0, Value.int IntKind.u8 0, Value.int IntKind.u8 0, Value.int IntKind.u8 0] 24) = wc at *
    refine hid ?_
    refine wpList_store_row rfl 24 (.tmp 5) (.tmp 16) rfl wb.heap.size R rfl rfl 24 _ HO1.out (by rw [HHS.out]; kernel_rfl) HHS.out.symm HHO.out ?_
    have HX1 := hid (setRow_heap wc wb.heap.size _ R 24 _ HO1.out)
    have HB2 := hid (below_setRow HB1.out (Nat.le_refl _) R)
    clear HO1 HB1
    generalize wc.setRow wb.heap.size R = w1 at *
    have hlb : w.heap.size < wb.heap.size := lt_of_block HOb.out
    have HO1 : Hid (w1.heap[w.heap.size]? = _) := hid ((HB2.out.block _ hlb).trans HOb.out)
    have HW1 : Hid (Below w.heap.size w w1) := hid (below_then HBw.out HB2.out)
    obtain ⟨kl, hkl⟩ : ∃ kl, kl = sha key := ⟨_, rfl⟩
    have hkn : kl.length = 32 := by rw [hkl]; exact sha_len _
    have HK1 : Hid (Rd w1 .u8 (some ⟨wb.heap.size, 0, none⟩) kl) := hid (Rd.row (t := 24) (by rw [HX1.out, HRR.out, hkl]; rfl) (by omega))
    have HKN : Hid (kl.length = 32) := hid hkn
    have HKB : Hid (Bytes kl) := hid (by rw [hkl]; exact sha_bytes _)
    have HKO : Box (keyOf key = kl ++ List.replicate (64 - 32) 0) := ⟨by unfold keyOf; rw [HNk.out, if_pos hlong, hkl]; show sha key ++ List.replicate (64 - (sha key).length) 0 = _; rw [sha_len]⟩
    have hk64 : 32 ≤ 64 := by omega
    clear hkl hkn HX1 HB2 HOb HBw HRk HBk HAk HNk HRR HHS HHO
    go_wp2_with (go_at_call 33; refine hold ?_)
    have hl1 : w.heap.size < w1.heap.size := lt_of_block HO1.out
    refine hid ?_
    refine Calls.mono (new_calls w1) ?_
    rintro e w2 ⟨rfl, hI2, hB2⟩
    have HI2 := hid hI2; have HB2 := hid hB2
    clear hI2 hB2
    have hl2 : w1.heap.size < w2.heap.size := lt_of_block HI2.out
    go_wp2_with (go_at_call 33; refine hold ?_)
    refine hid ?_
    refine Calls.mono (new_calls w2) ?_
    rintro e w3 ⟨rfl, hI3, hB3⟩
    have HI3 := hid hI3; have HB3 := hid hB3
    clear hI3 hB3
    have hl3 : w2.heap.size < w3.heap.size := lt_of_block HI3.out
    go_wp2_with (with_reducible refine hold_op (o := ⟨some 22, _, _, _, _, _⟩) ?_)
    have hX0 : (w3.alloc (.cells #[Value.int IntKind.u8 0, Value.int IntKind.u8 0, Value.int IntKind.u8 0, Value.int IntKind.u8 0, Value.int IntKind.u8 0, Value.int IntKind.u8 0, Value.int IntKind.u8 0, Value.int IntKind.u8 0, Value.int IntKind.u8 0, Value.int IntKind.u8 0, Value.int IntKind.u8 0, Value.int IntKind.u8 0, Value.int IntKind.u8 0, Value.int IntKind.u8 0, Value.int IntKind.u8 0, Value.int IntKind.u8 0, Value.int IntKind.u8 0, Value.int IntKind.u8 0, Value.int IntKind.u8 0, Value.int IntKind.u8 0, Value.int IntKind.u8 0, Value.int IntKind.u8 0, Value.int IntKind.u8 0, Value.int IntKind.u8 0, Value.int IntKind.u8 0, Value.int IntKind.u8 0, Value.int IntKind.u8 0, Value.int IntKind.u8 0, Value.int IntKind.u8 0, Value.int IntKind.u8 0, Value.int IntKind.u8 0, Value.int IntKind.u8 0, Value.int IntKind.u8 0, Value.int IntKind.u8 0, Value.int IntKind.u8 0, Value.int IntKind.u8 0, Value.int IntKind.u8 0, Value.int IntKind.u8 0, Value.int IntKind.u8 0, Value.int IntKind.u8 0, Value.int IntKind.u8 0, Value.int IntKind.u8 0, Value.int IntKind.u8 0, Value.int IntKind.u8 0, Value.int IntKind.u8 0, Value.int IntKind.u8 0, Value.int IntKind.u8 0, Value.int IntKind.u8 0, Value.int IntKind.u8 0, Value.int IntKind.u8 0, Value.int IntKind.u8 0, Value.int IntKind.u8 0, Value.int IntKind.u8 0, Value.int IntKind.u8 0, Value.int IntKind.u8 0, Value.int IntKind.u8 0, Value.int IntKind.u8 0, Value.int IntKind.u8 0, Value.int IntKind.u8 0, Value.int IntKind.u8 0, Value.int IntKind.u8 0, Value.int IntKind.u8 0, Value.int IntKind.u8 0, Value.int IntKind.u8 0] 71)).heap[w3.heap.size]? = some (.cells #[Value.int IntKind.u8 0, Value.int IntKind.u8 0, Value.int IntKind.u8 0, Value.int IntKind.u8 0, Value.int IntKind.u8 0, Value.int IntKind.u8 0, Value.int IntKind.u8 0, Value.int IntKind.u8 0, Value.int IntKind.u8 0, Value.int IntKind.u8 0, Value.int IntKind.u8 0, Value.int IntKind.u8 0, Value.int IntKind.u8 0, Value.int IntKind.u8 0, Value.int IntKind.u8 0, Value.int IntKind.u8 0, Value.int IntKind.u8 0, Value.int IntKind.u8 0, Value.int IntKind.u8 0, Value.int IntKind.u8 0, Value.int IntKind.u8 0, Value.int IntKind.u8 0, Value.int IntKind.u8 0, Value.int IntKind.u8 0, Value.int IntKind.u8 0, Value.int IntKind.u8 0, Value.int IntKind.u8 0, Value.int IntKind.u8 0, Value.int IntKind.u8 0, Value.int IntKind.u8 0, Value.int IntKind.u8 0, Value.int IntKind.u8 0, Value.int IntKind.u8 0, Value.int IntKind.u8 0, Value.int IntKind.u8 0, Value.int IntKind.u8 0, Value.int IntKind.u8 0, Value.int IntKind.u8 0, Value.int IntKind.u8 0, Value.int IntKind.u8 0, Value.int IntKind.u8 0, Value.int IntKind.u8 0, Value.int IntKind.u8 0, Value.int IntKind.u8 0, Value.int IntKind.u8 0, Value.int IntKind.u8 0, Value.int IntKind.u8 0, Value.int IntKind.u8 0, Value.int IntKind.u8 0, Value.int IntKind.u8 0, Value.int IntKind.u8 0, Value.int IntKind.u8 0, Value.int IntKind.u8 0, Value.int IntKind.u8 0, Value.int IntKind.u8 0, Value.int IntKind.u8 0, Value.int IntKind.u8 0, Value.int IntKind.u8 0, Value.int IntKind.u8 0, Value.int IntKind.u8 0, Value.int IntKind.u8 0, Value.int IntKind.u8 0, Value.int IntKind.u8 0, Value.int IntKind.u8 0] 71 (0, 0)) := heap_alloc_new _ _
    have hB0 : Below w3.heap.size w3 (w3.alloc (.cells #[Value.int IntKind.u8 0, Value.int IntKind.u8 0, Value.int IntKind.u8 0, Value.int IntKind.u8 0, Value.int IntKind.u8 0, Value.int IntKind.u8 0, Value.int IntKind.u8 0, Value.int IntKind.u8 0, Value.int IntKind.u8 0, Value.int IntKind.u8 0, Value.int IntKind.u8 0, Value.int IntKind.u8 0, Value.int IntKind.u8 0, Value.int IntKind.u8 0, Value.int IntKind.u8 0, Value.int IntKind.u8 0, Value.int IntKind.u8 0, Value.int IntKind.u8 0, Value.int IntKind.u8 0, Value.int IntKind.u8 0, Value.int IntKind.u8 0, Value.int IntKind.u8 0, Value.int IntKind.u8 0, Value.int IntKind.u8 0, Value.int IntKind.u8 0, Value.int IntKind.u8 0, Value.int IntKind.u8 0, Value.int IntKind.u8 0, Value.int IntKind.u8 0, Value.int IntKind.u8 0, Value.int IntKind.u8 0, Value.int IntKind.u8 0, Value.int IntKind.u8 0, Value.int IntKind.u8 0, Value.int IntKind.u8 0, Value.int IntKind.u8 0, Value.int IntKind.u8 0, Value.int IntKind.u8 0, Value.int IntKind.u8 0, Value.int IntKind.u8 0, Value.int IntKind.u8 0, Value.int IntKind.u8 0, Value.int IntKind.u8 0, Value.int IntKind.u8 0, Value.int IntKind.u8 0, Value.int IntKind.u8 0, Value.int IntKind.u8 0, Value.int IntKind.u8 0, Value.int IntKind.u8 0, Value.int IntKind.u8 0, Value.int IntKind.u8 0, Value.int IntKind.u8 0, Value.int IntKind.u8 0, Value.int IntKind.u8 0, Value.int IntKind.u8 0, Value.int IntKind.u8 0, Value.int IntKind.u8 0, Value.int IntKind.u8 0, Value.int IntKind.u8 0, Value.int IntKind.u8 0, Value.int IntKind.u8 0, Value.int IntKind.u8 0, Value.int IntKind.u8 0, Value.int IntKind.u8 0] 71)) := (Below.refl _ _).alloc (Nat.le_refl _) _
    have hs4 : (w3.alloc (.cells #[Value.int IntKind.u8 0, Value.int IntKind.u8 0, Value.int IntKind.u8 0, Value.int IntKind.u8 0, Value.int IntKind.u8 0, Value.int IntKind.u8 0, Value.int IntKind.u8 0, Value.int IntKind.u8 0, Value.int IntKind.u8 0, Value.int IntKind.u8 0, Value.int IntKind.u8 0, Value.int IntKind.u8 0, Value.int IntKind.u8 0, Value.int IntKind.u8 0, Value.int IntKind.u8 0, Value.int IntKind.u8 0, Value.int IntKind.u8 0, Value.int IntKind.u8 0, Value.int IntKind.u8 0, Value.int IntKind.u8 0, Value.int IntKind.u8 0, Value.int IntKind.u8 0, Value.int IntKind.u8 0, Value.int IntKind.u8 0, Value.int IntKind.u8 0, Value.int IntKind.u8 0, Value.int IntKind.u8 0, Value.int IntKind.u8 0, Value.int IntKind.u8 0, Value.int IntKind.u8 0, Value.int IntKind.u8 0, Value.int IntKind.u8 0, Value.int IntKind.u8 0, Value.int IntKind.u8 0, Value.int IntKind.u8 0, Value.int IntKind.u8 0, Value.int IntKind.u8 0, Value.int IntKind.u8 0, Value.int IntKind.u8 0, Value.int IntKind.u8 0, Value.int IntKind.u8 0, Value.int IntKind.u8 0, Value.int IntKind.u8 0, Value.int IntKind.u8 0, Value.int IntKind.u8 0, Value.int IntKind.u8 0, Value.int IntKind.u8 0, Value.int IntKind.u8 0, Value.int IntKind.u8 0, Value.int IntKind.u8 0, Value.int IntKind.u8 0, Value.int IntKind.u8 0, Value.int IntKind.u8 0, Value.int IntKind.u8 0, Value.int IntKind.u8 0, Value.int IntKind.u8 0, Value.int IntKind.u8 0, Value.int IntKind.u8 0, Value.int IntKind.u8 0, Value.int IntKind.u8 0, Value.int IntKind.u8 0, Value.int IntKind.u8 0, Value.int IntKind.u8 0, Value.int IntKind.u8 0] 71)).heap.size = w3.heap.size + 1 := by simp
    have HX0 := hid hX0; have HB4 := hid hB0; have HS4 := hid hs4
    clear hX0 hB0 hs4
    generalize w3.alloc (.cells #[Value.int IntKind.u8 0, Value.int IntKind.u8 0, Value.int IntKind.u8 0, Value.int IntKind.u8 0, Value.int IntKind.u8 0, Value.int IntKind.u8 0, Value.int IntKind.u8 0, Value.int IntKind.u8 0, Value.int IntKind.u8 0, Value.int IntKind.u8 0, Value.int IntKind.u8 0, Value.int IntKind.u8 0, Value.int IntKind.u8 0, Value.int IntKind.u8 0, Value.int IntKind.u8 0, Value.int IntKind.u8 0, Value.int IntKind.u8 0, Value.int IntKind.u8 0, Value.int IntKind.u8 0, Value.int IntKind.u8 0, Value.int IntKind.u8 0, Value.int IntKind.u8 0, Value.int IntKind.u8 0, Value.int IntKind.u8 0, Value.int IntKind.u8 0, Value.int IntKind.u8 0, Value.int IntKind.u8 0, Value.int IntKind.u8 0, Value.int IntKind.u8 0, Value.int IntKind.u8 0, Value.int IntKind.u8 0, Value.int IntKind.u8 0, Value.int IntKind.u8 0, Value.int IntKind.u8 0, Value.int IntKind.u8 0, Value.int IntKind.u8 0, Value.int IntKind.u8 0, Value.int IntKind.u8 0, Value.int IntKind.u8 0, Value.int IntKind.u8 0, Value.int IntKind.u8 0, Value.int IntKind.u8 0, Value.int IntKind.u8 0, Value.int IntKind.u8 0, Value.int IntKind.u8 0, Value.int IntKind.u8 0, Value.int IntKind.u8 0, Value.int IntKind.u8 0, Value.int IntKind.u8 0, Value.int IntKind.u8 0, Value.int IntKind.u8 0, Value.int IntKind.u8 0, Value.int IntKind.u8 0, Value.int IntKind.u8 0, Value.int IntKind.u8 0, Value.int IntKind.u8 0, Value.int IntKind.u8 0, Value.int IntKind.u8 0, Value.int IntKind.u8 0, Value.int IntKind.u8 0, Value.int IntKind.u8 0, Value.int IntKind.u8 0, Value.int IntKind.u8 0, Value.int IntKind.u8 0] 71) = w4 at *
    have hY0 : (w4.alloc (.cells #[Value.int IntKind.u8 0, Value.int IntKind.u8 0, Value.int IntKind.u8 0, Value.int IntKind.u8 0, Value.int IntKind.u8 0, Value.int IntKind.u8 0, Value.int IntKind.u8 0, Value.int IntKind.u8 0, Value.int IntKind.u8 0, Value.int IntKind.u8 0, Value.int IntKind.u8 0, Value.int IntKind.u8 0, Value.int IntKind.u8 0, Value.int IntKind.u8 0, Value.int IntKind.u8 0, Value.int IntKind.u8 0, Value.int IntKind.u8 0, Value.int IntKind.u8 0, Value.int IntKind.u8 0, Value.int IntKind.u8 0, Value.int IntKind.u8 0, Value.int IntKind.u8 0, Value.int IntKind.u8 0, Value.int IntKind.u8 0, Value.int IntKind.u8 0, Value.int IntKind.u8 0, Value.int IntKind.u8 0, Value.int IntKind.u8 0, Value.int IntKind.u8 0, Value.int IntKind.u8 0, Value.int IntKind.u8 0, Value.int IntKind.u8 0, Value.int IntKind.u8 0, Value.int IntKind.u8 0, Value.int IntKind.u8 0, Value.int IntKind.u8 0, Value.int IntKind.u8 0, Value.int IntKind.u8 0, Value.int IntKind.u8 0, Value.int IntKind.u8 0, Value.int IntKind.u8 0, Value.int IntKind.u8 0, Value.int IntKind.u8 0, Value.int IntKind.u8 0, Value.int IntKind.u8 0, Value.int IntKind.u8 0, Value.int IntKind.u8 0, Value.int IntKind.u8 0, Value.int IntKind.u8 0, Value.int IntKind.u8 0, Value.int IntKind.u8 0, Value.int IntKind.u8 0, Value.int IntKind.u8 0, Value.int IntKind.u8 0, Value.int IntKind.u8 0, Value.int IntKind.u8 0, Value.int IntKind.u8 0, Value.int IntKind.u8 0, Value.int IntKind.u8 0, Value.int IntKind.u8 0, Value.int IntKind.u8 0, Value.int IntKind.u8 0, Value.int IntKind.u8 0, Value.int IntKind.u8 0] 71)).heap[w3.heap.size + 1]? = some (.cells #[Value.int IntKind.u8 0, Value.int IntKind.u8 0, Value.int IntKind.u8 0, Value.int IntKind.u8 0, Value.int IntKind.u8 0, Value.int IntKind.u8 0, Value.int IntKind.u8 0, Value.int IntKind.u8 0, Value.int IntKind.u8 0, Value.int IntKind.u8 0, Value.int IntKind.u8 0, Value.int IntKind.u8 0, Value.int IntKind.u8 0, Value.int IntKind.u8 0, Value.int IntKind.u8 0, Value.int IntKind.u8 0, Value.int IntKind.u8 0, Value.int IntKind.u8 0, Value.int IntKind.u8 0, Value.int IntKind.u8 0, Value.int IntKind.u8 0, Value.int IntKind.u8 0, Value.int IntKind.u8 0, Value.int IntKind.u8 0, Value.int IntKind.u8 0, Value.int IntKind.u8 0, Value.int IntKind.u8 0, Value.int IntKind.u8 0, Value.int IntKind.u8 0, Value.int IntKind.u8 0, Value.int IntKind.u8 0, Value.int IntKind.u8 0, Value.int IntKind.u8 0, Value.int IntKind.u8 0, Value.int IntKind.u8 0, Value.int IntKind.u8 0, Value.int IntKind.u8 0, Value.int IntKind.u8 0, Value.int IntKind.u8 0, Value.int IntKind.u8 0, Value.int IntKind.u8 0, Value.int IntKind.u8 0, Value.int IntKind.u8 0, Value.int IntKind.u8 0, Value.int IntKind.u8 0, Value.int IntKind.u8 0, Value.int IntKind.u8 0, Value.int IntKind.u8 0, Value.int IntKind.u8 0, Value.int IntKind.u8 0, Value.int IntKind.u8 0, Value.int IntKind.u8 0, Value.int IntKind.u8 0, Value.int IntKind.u8 0, Value.int IntKind.u8 0, Value.int IntKind.u8 0, Value.int IntKind.u8 0, Value.int IntKind.u8 0, Value.int IntKind.u8 0, Value.int IntKind.u8 0, Value.int IntKind.u8 0, Value.int IntKind.u8 0, Value.int IntKind.u8 0, Value.int IntKind.u8 0] 71 (0, 0)) := by rw [← HS4.out]; exact heap_alloc_new _ _
    have hB5 : Below w4.heap.size w4 (w4.alloc (.cells #[Value.int IntKind.u8 0, Value.int IntKind.u8 0, Value.int IntKind.u8 0, Value.int IntKind.u8 0, Value.int IntKind.u8 0, Value.int IntKind.u8 0, Value.int IntKind.u8 0, Value.int IntKind.u8 0, Value.int IntKind.u8 0, Value.int IntKind.u8 0, Value.int IntKind.u8 0, Value.int IntKind.u8 0, Value.int IntKind.u8 0, Value.int IntKind.u8 0, Value.int IntKind.u8 0, Value.int IntKind.u8 0, Value.int IntKind.u8 0, Value.int IntKind.u8 0, Value.int IntKind.u8 0, Value.int IntKind.u8 0, Value.int IntKind.u8 0, Value.int IntKind.u8 0, Value.int IntKind.u8 0, Value.int IntKind.u8 0, Value.int IntKind.u8 0, Value.int IntKind.u8 0, Value.int IntKind.u8 0, Value.int IntKind.u8 0, Value.int IntKind.u8 0, Value.int IntKind.u8 0, Value.int IntKind.u8 0, Value.int IntKind.u8 0, Value.int IntKind.u8 0, Value.int IntKind.u8 0, Value.int IntKind.u8 0, Value.int IntKind.u8 0, Value.int IntKind.u8 0, Value.int IntKind.u8 0, Value.int IntKind.u8 0, Value.int IntKind.u8 0, Value.int IntKind.u8 0, Value.int IntKind.u8 0, Value.int IntKind.u8 0, Value.int IntKind.u8 0, Value.int IntKind.u8 0, Value.int IntKind.u8 0, Value.int IntKind.u8 0, Value.int IntKind.u8 0, Value.int IntKind.u8 0, Value.int IntKind.u8 0, Value.int IntKind.u8 0, Value.int IntKind.u8 0, Value.int IntKind.u8 0, Value.int IntKind.u8 0, Value.int IntKind.u8 0, Value.int IntKind.u8 0, Value.int IntKind.u8 0, Value.int IntKind.u8 0, Value.int IntKind.u8 0, Value.int IntKind.u8 0, Value.int IntKind.u8 0, Value.int IntKind.u8 0, Value.int IntKind.u8 0, Value.int IntKind.u8 0] 71)) := (Below.refl _ _).alloc (Nat.le_refl _) _
    have HX5 := hid ((hB5.block _ (lt_of_block HX0.out)).trans HX0.out)
    have HY5 := hid hY0
    have HB5 := hid (below_then HB4.out hB5)
    clear hY0 hB5 HB4 HX0
    generalize w4.alloc (.cells #[Value.int IntKind.u8 0, Value.int IntKind.u8 0, Value.int IntKind.u8 0, Value.int IntKind.u8 0, Value.int IntKind.u8 0, Value.int IntKind.u8 0, Value.int IntKind.u8 0, Value.int IntKind.u8 0, Value.int IntKind.u8 0, Value.int IntKind.u8 0, Value.int IntKind.u8 0, Value.int IntKind.u8 0, Value.int IntKind.u8 0, Value.int IntKind.u8 0, Value.int IntKind.u8 0, Value.int IntKind.u8 0, Value.int IntKind.u8 0, Value.int IntKind.u8 0, Value.int IntKind.u8 0, Value.int IntKind.u8 0, Value.int IntKind.u8 0, Value.int IntKind.u8 0, Value.int IntKind.u8 0, Value.int IntKind.u8 0, Value.int IntKind.u8 0, Value.int IntKind.u8 0, Value.int IntKind.u8 0, Value.int IntKind.u8 0, Value.int IntKind.u8 0, Value.int IntKind.u8 0, Value.int IntKind.u8 0, Value.int IntKind.u8 0, Value.int IntKind.u8 0, Value.int IntKind.u8 0, Value.int IntKind.u8 0, Value.int IntKind.u8 0, Value.int IntKind.u8 0, Value.int IntKind.u8 0, Value.int IntKind.u8 0, Value.int IntKind.u8 0, Value.int IntKind.u8 0, Value.int IntKind.u8 0, Value.int IntKind.u8 0, Value.int IntKind.u8 0, Value.int IntKind.u8 0, Value.int IntKind.u8 0, Value.int IntKind.u8 0, Value.int IntKind.u8 0, Value.int IntKind.u8 0, Value.int IntKind.u8 0, Value.int IntKind.u8 0, Value.int IntKind.u8 0, Value.int IntKind.u8 0, Value.int IntKind.u8 0, Value.int IntKind.u8 0, Value.int IntKind.u8 0, Value.int IntKind.u8 0, Value.int IntKind.u8 0, Value.int IntKind.u8 0, Value.int IntKind.u8 0, Value.int IntKind.u8 0, Value.int IntKind.u8 0, Value.int IntKind.u8 0, Value.int IntKind.u8 0] 71) = w5 at *
    have HK5 : Hid (Rd w5 .u8 (some ⟨wb.heap.size, 0, none⟩) kl) := hid (((HK1.out.below HB2.out).below HB3.out).below HB5.out)
    refine hid ?_
    refine wpList_copy_grown rfl (.tmp 20) (.tmp 21) 22 22 rfl 5 elemB.1 (by kernel_rfl) (some ⟨w3.heap.size, 0, none⟩) (some ⟨wb.heap.size, 0, none⟩) 64 64 32 32 rfl rfl w3.heap.size 0 ((List.replicate 64 0).map (Value.int .u8)) 71 HX5.out (kl.map (Value.int .u8)) (by rw [List.length_map, HKN.out]; exact (Nat.min_eq_left hk64).symm) (fun hp => ⟨rfl, HK5.out.src (by simpa using hp)⟩) (by rw [List.length_map, HKN.out, List.length_map, List.length_replicate]; omega) (fun u hu => by obtain ⟨y, _, rfl⟩ := List.mem_map.1 hu; rfl) ?_
    intro w6 HX6 hg6
    have HK : Box (splice ((List.replicate 64 0).map (Value.int .u8)) 0 (kl.map (Value.int .u8)) = (keyOf key).map (Value.int .u8)) := ⟨by rw [splice_pad _ _ (by rw [HKN.out]; exact hk64), HKN.out, HKO.out]⟩
    have HX7 : Hid (w6.heap[w3.heap.size]? = some (.cells (((keyOf key).map (Value.int .u8)).toArray) 71 (0, 0))) := hid (by rw [← HK.out]; exact HX6.out)
    have HY6 := hid ((hg6.block _ (lt_of_block HY5.out) (fun h => by injection h with h; omega)).trans HY5.out)
    have HB6 : Hid (Below w3.heap.size w3 w6) := hid (HB5.out.grown hg6 HB5.out.size (fun k hk => by injection hk with hk; omega))
    have HKL := hid (keyOf_len key)
    have HKO0 := HKO
    clear HX6 hg6 HX5 HY5 HB5 HK5 HK HK1 HKN HKO
    obtain ⟨KO, hKO⟩ : ∃ KO, KO = keyOf key := ⟨_, rfl⟩
    rw [← hKO] at HX7 HKL
    have HKO : Box (KO = keyOf key) := ⟨hKO⟩
    have HKOB : Hid (Bytes KO) := hid (by
      rw [hKO, HKO0.out]
      exact HKB.out.append (fun x hx => by rw [List.eq_of_mem_replicate hx]; omega))
    clear hKO HKO0
    go_wp2_with (with_reducible refine hold_op (o := ⟨some 23, _, _, _, _, _⟩) ?_)
    refine hid ?_
    refine wpList_load_row rfl 71 (.tmp 8) rfl w3.heap.size rfl 71 _ (0, 0) _ HX7.out Tryd.underlying71 rfl (by rw [List.size_toArray, List.length_map, HKL.out]; kernel_rfl) ?_
    refine wpList_store_row rfl 71 (.tmp 9) (.tmp 23) rfl (w3.heap.size + 1) _ rfl rfl 71 _ HY6.out (by rw [List.size_toArray, List.length_map, HKL.out]; kernel_rfl) (by show 64 = (KO.map (Value.int .u8)).length; rw [List.length_map, HKL.out]) (map_one _) ?_
    have HY8 := hid (setRow_heap w6 (w3.heap.size + 1) _ ((KO.map (Value.int .u8)).toArray) 71 _ HY6.out)
    have HX8 := hid ((setRow_other w6 (w3.heap.size + 1) w3.heap.size ((KO.map (Value.int .u8)).toArray) (by omega)).trans HX7.out)
    have HB8 := hid (below_setRow HB6.out (Nat.le_succ _) ((KO.map (Value.int .u8)).toArray))
    clear HY6 HX7 HB6
    generalize w6.setRow (w3.heap.size + 1) ((KO.map (Value.int .u8)).toArray) = w8 at *
    generalize (KO.map (Value.int .u8)).toArray = KA
    go_wp2
    go_loopw [24] (fun i w' => ∃ k : Nat, k ≤ 64 ∧ i = .int .i64 k ∧ w'.heap[w3.heap.size]? = some (.cells (((xorTo KO 54 k).map (Value.int .u8)).toArray) 71 (0, 0)) ∧ w'.heap[w3.heap.size + 1]? = some (.cells (((xorTo KO 92 k).map (Value.int .u8)).toArray) 71 (0, 0)) ∧ Below w3.heap.size w3 w') (fun i _ => 64 - (intOf i).toNat)
    case atStart => exact ⟨0, by omega, rfl, HX8.out, HY8.out, HB8.out⟩
    case round =>
      obtain ⟨k, hk, rfl, hX, hY, hB⟩ := hrel
      have HXr := hid hX; have HYr := hid hY; have HBr := hid hB
      clear hX hY hB HX8 HY8 HB8
      by_cases hlt : k < 64
      · have hk0 : (0 : Int) ≤ (k : Int) := by omega
        have hk1 : (k : Int) < 64 := by omega
        have hkl : k < KO.length := by rw [HKL.out]; exact hlt
        have x0 : wr.cell? ⟨w3.heap.size, k, none⟩ = some (.int .u8 (KO.getD k 0)) := cellOf HXr.out (xorTo_at KO 54 k hkl)
        have x1 : wr.frozen? ⟨w3.heap.size, k, none⟩ = false := frozen_of_row _ _ _ _ _ HXr.out
        have hys : (wr.setCell ⟨w3.heap.size, k, none⟩ (.int .u8 (xorI (KO.getD k 0) 54))).heap[w3.heap.size + 1]? = some (.cells (((xorTo KO 92 k).map (Value.int .u8)).toArray) 71 (0, 0)) := (Below.heap_setCell _ _ _ _ (by simp)).trans HYr.out
        have y0 : (wr.setCell ⟨w3.heap.size, k, none⟩ (.int .u8 (xorI (KO.getD k 0) 54))).cell? ⟨w3.heap.size + 1, k, none⟩ = some (.int .u8 (KO.getD k 0)) := cellOf hys (xorTo_at KO 92 k hkl)
        have y1 : (wr.setCell ⟨w3.heap.size, k, none⟩ (.int .u8 (xorI (KO.getD k 0) 54))).frozen? ⟨w3.heap.size + 1, k, none⟩ = false := frozen_of_row _ _ _ _ _ hys
        have HS1 : Box ((((xorTo KO 54 k).map (Value.int .u8)).toArray).setIfInBounds k (.int .u8 (xorI (KO.getD k 0) 54)) = ((xorTo KO 54 (k + 1)).map (Value.int .u8)).toArray) := ⟨xorTo_set KO 54 k hkl⟩
        have HS2 : Box ((((xorTo KO 92 k).map (Value.int .u8)).toArray).setIfInBounds k (.int .u8 (xorI (KO.getD k 0) 92)) = ((xorTo KO 92 (k + 1)).map (Value.int .u8)).toArray) := ⟨xorTo_set KO 92 k hkl⟩
        have e54 : bits .xor .u8 (KO.getD k 0) 54 = xorI (KO.getD k 0) 54 := xorI_eq _ 54 (HKOB.out.at_ k).1
        have e92 : bits .xor .u8 (KO.getD k 0) 92 = xorI (KO.getD k 0) 92 := xorI_eq _ 92 (HKOB.out.at_ k).1
        have HYS := hid hys
        clear hys hkl
        obtain ⟨X5, hX5⟩ : ∃ X5, X5 = xorI (KO.getD k 0) 54 := ⟨_, rfl⟩
        obtain ⟨X9, hX9⟩ : ∃ X9, X9 = xorI (KO.getD k 0) 92 := ⟨_, rfl⟩
        rw [← hX5] at e54 y0 y1 HYS HS1
        rw [← hX9] at e92 HS2
        clear hX5 hX9
        generalize KO.getD k 0 = X0 at *
        go_wp2
        go_roundw
        case rel =>
          refine ⟨k + 1, by omega, by go_num, ?_, ?_, (HBr.out.setCell (Nat.le_refl _) _).setCell (Nat.le_succ _) _⟩
          · have := hs (i := k) (v := .int .u8 X5) HXr.out
            rw [HS1.out] at this
            exact (Below.heap_setCell _ _ _ _ (by simp)).trans this
          · have := hs (i := k) (v := .int .u8 X9) HYS.out
            rw [HS2.out] at this
            exact this
        case measure => simp [intOf]; omega
      · obtain rfl : k = 64 := by omega
        clear hlt hk
        have HXR := hid HXr.out
        have HYR := hid HYr.out
        rw [xorTo_all _ _ _ HKL.out] at HXR HYR
        clear HXr HYr
        have HL5 : Hid ((KO.map (xorI · 54)).length = 64) := hid (by rw [List.length_map]; exact HKL.out)
        have HL9 : Hid ((KO.map (xorI · 92)).length = 64) := hid (by rw [List.length_map]; exact HKL.out)
        have HB54 := hid (xorI_bytes KO 54)
        have HB92 := hid (xorI_bytes KO 92)
        have HM : Box (mac key bs = sha (KO.map (xorI · 92) ++ sha (KO.map (xorI · 54) ++ bs))) := ⟨by rw [HKO.out]; rfl⟩
        obtain ⟨K5, hK5⟩ : ∃ K5, K5 = KO.map (xorI · 54) := ⟨_, rfl⟩
        obtain ⟨K9, hK9⟩ : ∃ K9, K9 = KO.map (xorI · 92) := ⟨_, rfl⟩
        rw [← hK5] at HXR HL5 HB54 HM
        rw [← hK9] at HYR HL9 HB92 HM
        clear hK5 hK9 HKO HKL HKOB
        have HRX : Hid (Rd wr .u8 (some ⟨w3.heap.size, 0, none⟩) K5) := hid (Rd.row HXR.out (by rw [HL5.out]; omega))
        have HRY : Hid (Rd wr .u8 (some ⟨w3.heap.size + 1, 0, none⟩) K9) := hid (Rd.row HYR.out (by rw [HL9.out]; omega))
        have hly : w3.heap.size + 1 < wr.heap.size := lt_of_block HYR.out
        clear HXR HYR
        have HI2r := hid ((HI2.out.below HB3.out).below HBr.out)
        have HI3r := hid (HI3.out.below HBr.out)
        have HWr : Hid (Below w.heap.size w wr) := hid (below_then HW1.out (below_then HB2.out (below_then HB3.out HBr.out)))
        have HTr := hid (HT.out.below HWr.out)
        have HRr := hid (HR.out.below HWr.out)
        have HOr : Hid (wr.heap[w.heap.size]? = _) := hid ((HBr.out.block _ (by omega)).trans ((HB3.out.block _ (by omega)).trans ((HB2.out.block _ hl1).trans HO1.out)))
        have hT0 := HT.out.1
        clear HI2 HI3 HB2 HB3 HBr HW1 HO1
        go_wp2_with (go_at_call 20; refine hold ?_)
        refine hid ?_
        refine Calls.mono (write_calls w1.heap.size 64 64 _ [] K5 HL5.out wr HTr.out (St.new HI2r.out) (by omega) HRX.out (fun h => by simp at h) (fun _ b o e => by injection e with e; injection e with e1 e2; omega) HB54.out (by simp)) ?_
        rintro e wA ⟨rfl, hSA, hGA⟩
        rw [List.nil_append] at hSA
        have HSA := hid hSA
        have HI3A := hid (HI3r.out.kept hGA (fun h => by injection h with h; omega))
        have HRYA := hid (HRY.out.kept hGA (fun b o e h => by injection e with e; injection e with e1 e2; injection h with h; omega))
        have HWA : Hid (Below w.heap.size w wA) := hid (HWr.out.grown hGA HWr.out.size (fun k hk => by injection hk with hk; omega))
        have HTA := hid (HT.out.below HWA.out)
        have HRA := hid (HR.out.below HWA.out)
        have HOA : Hid (wA.heap[w.heap.size]? = _) := hid ((hGA.block _ (lt_of_block HOr.out) (fun h => by injection h with h; omega)).trans HOr.out)
        clear hSA hGA HI3r HRY HWr HTr HRr HOr HRX HI2r
        go_wp2_with (go_at_call 20; refine hold ?_)
        refine hid ?_
        refine Calls.mono (write_calls w1.heap.size c n A K5 bs HN.out wA HTA.out HSA.out (by omega) HRA.out HA.out (fun hp b o e => by have := HR.out.under (by rw [HN.out]; exact hp) e; omega) HBb.out (by rw [HL5.out]; omega)) ?_
        rintro e wB ⟨rfl, hSB, hGB⟩
        have HSB := hid hSB
        have HI3B := hid (HI3A.out.kept hGB (fun h => by injection h with h; omega))
        have HRYB := hid (HRYA.out.kept hGB (fun b o e h => by injection e with e; injection e with e1 e2; injection h with h; omega))
        have HWB : Hid (Below w.heap.size w wB) := hid (HWA.out.grown hGB HWA.out.size (fun k hk => by injection hk with hk; omega))
        have HTB := hid (HT.out.below HWB.out)
        have HOB : Hid (wB.heap[w.heap.size]? = _) := hid ((hGB.block _ (lt_of_block HOA.out) (fun h => by injection h with h; omega)).trans HOA.out)
        clear hSB hGB HI3A HRYA HWA HTA HRA HOA HSA
        go_wp2_with (go_at_call 21; refine hold ?_)
        refine hid ?_
        refine Calls.mono (hsum_calls w1.heap.size (K5 ++ bs) wB HTB.out HSB.out (by rw [List.length_append, HL5.out, HN.out]; omega)) ?_
        rintro e wC ⟨rfl, hBC⟩
        obtain ⟨S, hS⟩ : ∃ S, S = sha (K5 ++ bs) := ⟨_, rfl⟩
        rw [← hS]
        rw [← hS] at HM
        have HSL : Hid (S.length = 32) := hid (by rw [hS]; exact sha_len _)
        have HSBy : Hid (Bytes S) := hid (by rw [hS]; exact sha_bytes _)
        clear hS
        have HI3C := hid (HI3B.out.below hBC)
        have HRYC := hid (HRYB.out.below hBC)
        have HWC := hid (below_then HWB.out hBC)
        have HOC : Hid (wC.heap[w.heap.size]? = _) := hid ((hBC.block _ (lt_of_block HOB.out)).trans HOB.out)
        have hlC := HWC.out.size
        have hlg2 : w2.heap.size < wC.heap.size := lt_of_block HI3C.out
        clear hBC HI3B HRYB HWB HTB HOB HSB
        go_wp2_with (with_reducible refine hold_op (o := ⟨none, _, _, _, _, _⟩) ?_)
        have hO1 : (wC.alloc (.cells #[Value.int IntKind.u8 0, Value.int IntKind.u8 0, Value.int IntKind.u8 0, Value.int IntKind.u8 0, Value.int IntKind.u8 0, Value.int IntKind.u8 0, Value.int IntKind.u8 0, Value.int IntKind.u8 0, Value.int IntKind.u8 0, Value.int IntKind.u8 0, Value.int IntKind.u8 0, Value.int IntKind.u8 0, Value.int IntKind.u8 0, Value.int IntKind.u8 0, Value.int IntKind.u8 0, Value.int IntKind.u8 0, Value.int IntKind.u8 0, Value.int IntKind.u8 0, Value.int IntKind.u8 0, Value.int IntKind.u8 0, Value.int IntKind.u8 0, Value.int IntKind.u8 0, Value.int IntKind.u8 0, Value.int IntKind.u8 0, Value.int IntKind.u8 0, Value.int IntKind.u8 0, Value.int IntKind.u8 0, Value.int IntKind.u8 0, Value.int IntKind.u8 0, Value.int IntKind.u8 0, Value.int IntKind.u8 0, Value.int IntKind.u8 0] 24)).heap[wC.heap.size]? = some (.cells #[Value.int IntKind.u8 0, Value.int IntKind.u8 0, Value.int IntKind.u8 0, Value.int IntKind.u8 0, Value.int IntKind.u8 0, Value.int IntKind.u8 0, Value.int IntKind.u8 0, Value.int IntKind.u8 0, Value.int IntKind.u8 0, Value.int IntKind.u8 0, Value.int IntKind.u8 0, Value.int IntKind.u8 0, Value.int IntKind.u8 0, Value.int IntKind.u8 0, Value.int IntKind.u8 0, Value.int IntKind.u8 0, Value.int IntKind.u8 0, Value.int IntKind.u8 0, Value.int IntKind.u8 0, Value.int IntKind.u8 0, Value.int IntKind.u8 0, Value.int IntKind.u8 0, Value.int IntKind.u8 0, Value.int IntKind.u8 0, Value.int IntKind.u8 0, Value.int IntKind.u8 0, Value.int IntKind.u8 0, Value.int IntKind.u8 0, Value.int IntKind.u8 0, Value.int IntKind.u8 0, Value.int IntKind.u8 0, Value.int IntKind.u8 0] 24 (0, 0)) := heap_alloc_new _ _
        have hB1 : Below wC.heap.size wC (wC.alloc (.cells #[Value.int IntKind.u8 0, Value.int IntKind.u8 0, Value.int IntKind.u8 0, Value.int IntKind.u8 0, Value.int IntKind.u8 0, Value.int IntKind.u8 0, Value.int IntKind.u8 0, Value.int IntKind.u8 0, Value.int IntKind.u8 0, Value.int IntKind.u8 0, Value.int IntKind.u8 0, Value.int IntKind.u8 0, Value.int IntKind.u8 0, Value.int IntKind.u8 0, Value.int IntKind.u8 0, Value.int IntKind.u8 0, Value.int IntKind.u8 0, Value.int IntKind.u8 0, Value.int IntKind.u8 0, Value.int IntKind.u8 0, Value.int IntKind.u8 0, Value.int IntKind.u8 0, Value.int IntKind.u8 0, Value.int IntKind.u8 0, Value.int IntKind.u8 0, Value.int IntKind.u8 0, Value.int IntKind.u8 0, Value.int IntKind.u8 0, Value.int IntKind.u8 0, Value.int IntKind.u8 0, Value.int IntKind.u8 0, Value.int IntKind.u8 0] 24)) := (Below.refl _ _).alloc (Nat.le_refl _) _
        have HO1 := hid hO1; have HB1 := hid hB1
        clear hO1 hB1
        generalize wC.alloc (.cells #[Value.int IntKind.u8 0, Value.int IntKind.u8 0, Value.int IntKind.u8 0, Value.int IntKind.u8 0, Value.int IntKind.u8 0, Value.int IntKind.u8 0, Value.int IntKind.u8 0, Value.int IntKind.u8 0, Value.int IntKind.u8 0, Value.int IntKind.u8 0, Value.int IntKind.u8 0, Value.int IntKind.u8 0, Value.int IntKind.u8 0, Value.int IntKind.u8 0, Value.int IntKind.u8 0, Value.int IntKind.u8 0, Value.int IntKind.u8 0, Value.int IntKind.u8 0, Value.int IntKind.u8 0, Value.int IntKind.u8 0, Value.int IntKind.u8 0, Value.int IntKind.u8 0, Value.int IntKind.u8 0, Value.int IntKind.u8 0, Value.int IntKind.u8 0, Value.int IntKind.u8 0, Value.int IntKind.u8 0, Value.int IntKind.u8 0, Value.int IntKind.u8 0, Value.int IntKind.u8 0, Value.int IntKind.u8 0, Value.int IntKind.u8 0] 24) = wD at *
        refine hid ?_
        refine wpList_store_row rfl 24 (.tmp 11) (.tmp 45) rfl wC.heap.size _ rfl rfl 24 _ HO1.out (by rw [List.size_toArray, List.length_map, HSL.out]; kernel_rfl) (by show 32 = (S.map (Value.int .u8)).length; rw [List.length_map, HSL.out]) (map_one _) ?_
        have HSE := hid (setRow_heap wD wC.heap.size _ ((S.map (Value.int .u8)).toArray) 24 _ HO1.out)
        have HBE := hid (below_setRow HB1.out (Nat.le_refl _) ((S.map (Value.int .u8)).toArray))
        clear HO1 HB1
        generalize wD.setRow wC.heap.size ((S.map (Value.int .u8)).toArray) = wE at *
        have HRSE : Hid (Rd wE .u8 (some ⟨wC.heap.size, 0, none⟩) S) := hid (Rd.row HSE.out (by rw [HSL.out]; omega))
        have HI3E := hid (HI3C.out.below HBE.out)
        have HRYE := hid (HRYC.out.below HBE.out)
        have HWE := hid (below_then HWC.out HBE.out)
        have HTE := hid (HT.out.below HWE.out)
        have HOE : Hid (wE.heap[w.heap.size]? = _) := hid ((HBE.out.block _ (lt_of_block HOC.out)).trans HOC.out)
        clear HI3C HRYC HWC HOC HSE HBE
        go_wp2_with (go_at_call 20; refine hold ?_)
        refine hid ?_
        refine Calls.mono (write_calls w2.heap.size 64 64 _ [] K9 HL9.out wE HTE.out (St.new HI3E.out) (by omega) HRYE.out (fun h => by simp at h) (fun _ b o e => by injection e with e; injection e with e1 e2; omega) HB92.out (by simp)) ?_
        rintro e wF ⟨rfl, hSF, hGF⟩
        rw [List.nil_append] at hSF
        have HSF := hid hSF
        have HRSF := hid (HRSE.out.kept hGF (fun b o e h => by injection e with e; injection e with e1 e2; injection h with h; omega))
        have HWF : Hid (Below w.heap.size w wF) := hid (HWE.out.grown hGF HWE.out.size (fun k hk => by injection hk with hk; omega))
        have HTF := hid (HT.out.below HWF.out)
        have HOF : Hid (wF.heap[w.heap.size]? = _) := hid ((hGF.block _ (lt_of_block HOE.out) (fun h => by injection h with h; omega)).trans HOE.out)
        clear hSF hGF HI3E HRYE HWE HTE HOE HRSE
        go_wp2_with (go_at_call 20; refine hold ?_)
        refine hid ?_
        refine Calls.mono (write_calls w2.heap.size 32 32 _ K9 S HSL.out wF HTF.out HSF.out (by omega) HRSF.out (fun h => by simp at h) (fun _ b o e => by injection e with e; injection e with e1 e2; omega) HSBy.out (by rw [HL9.out]; omega)) ?_
        rintro e wG ⟨rfl, hSG, hGG⟩
        have HSG := hid hSG
        have HWG : Hid (Below w.heap.size w wG) := hid (HWF.out.grown hGG HWF.out.size (fun k hk => by injection hk with hk; omega))
        have HTG := hid (HT.out.below HWG.out)
        have HOG : Hid (wG.heap[w.heap.size]? = _) := hid ((hGG.block _ (lt_of_block HOF.out) (fun h => by injection h with h; omega)).trans HOF.out)
        clear hSG hGG HWF HTF HOF HRSF HSF
        go_wp2_with (go_at_call 21; refine hold ?_)
        refine hid ?_
        refine Calls.mono (hsum_calls w2.heap.size (K9 ++ S) wG HTG.out HSG.out (by rw [List.length_append, HL9.out, HSL.out]; omega)) ?_
        rintro e wH ⟨rfl, hBH⟩
        have HOH : Hid (wH.heap[w.heap.size]? = _) := hid ((hBH.block _ (lt_of_block HOG.out)).trans HOG.out)
        have HWH := hid (below_then HWG.out hBH)
        clear hBH HOG HWG
        obtain ⟨R, hR⟩ : ∃ R, R = ((sha (K9 ++ S)).map (Value.int .u8)).toArray := ⟨_, rfl⟩
        rw [← hR]
        have HRR : Box (R = (((mac key bs)).map (Value.int .u8)).toArray) := ⟨by rw [HM.out]; exact hR⟩
        have HHS : Hid (R.size = 32) := hid (by rw [hR]; exact sha_size _)
        have HHO : Hid (R.all (·.oneCell') = true) := hid (by rw [hR]; exact sha_one _)
        clear hR
        go_wp2_with (with_reducible refine hold_op (o := ⟨none, _, _, _, _, _⟩) ?_)
        refine hid ?_
        refine wpList_store_row rfl 24 (.tmp 4) (.tmp 53) rfl w.heap.size R rfl rfl 24 _ HOH.out (by rw [HHS.out]; kernel_rfl) HHS.out.symm HHO.out ?_
        have HO5 := hid (setRow_heap wH w.heap.size _ R 24 _ HOH.out)
        have HB5 := hid (below_setRow HWH.out (Nat.le_refl _) R)
        clear HOH HWH
        generalize wH.setRow w.heap.size R = wI at *
        go_wp2
        refine bodyPost_ret (v := .agg R) ?_ rfl ⟨by rw [HRR.out], HB5.out⟩
        exact results_cell_row (p := 4) rfl _ wI w.heap.size 24 R (0, 0) _ rfl HO5.out Tryd.underlying24 rfl (by rw [HHS.out]; kernel_rfl)
  · have hli : ¬ (64 : Int) < (nk : Int) := by omega
    go_wp2_with (go_at_call 33; refine hold ?_)
    have hO0 : (w.alloc (.cells #[Value.int IntKind.u8 0, Value.int IntKind.u8 0, Value.int IntKind.u8 0, Value.int IntKind.u8 0, Value.int IntKind.u8 0, Value.int IntKind.u8 0, Value.int IntKind.u8 0, Value.int IntKind.u8 0, Value.int IntKind.u8 0, Value.int IntKind.u8 0, Value.int IntKind.u8 0, Value.int IntKind.u8 0, Value.int IntKind.u8 0, Value.int IntKind.u8 0, Value.int IntKind.u8 0, Value.int IntKind.u8 0, Value.int IntKind.u8 0, Value.int IntKind.u8 0, Value.int IntKind.u8 0, Value.int IntKind.u8 0, Value.int IntKind.u8 0, Value.int IntKind.u8 0, Value.int IntKind.u8 0, Value.int IntKind.u8 0, Value.int IntKind.u8 0, Value.int IntKind.u8 0, Value.int IntKind.u8 0, Value.int IntKind.u8 0, Value.int IntKind.u8 0, Value.int IntKind.u8 0, Value.int IntKind.u8 0, Value.int IntKind.u8 0] 24)).heap[w.heap.size]? = some (.cells #[Value.int IntKind.u8 0, Value.int IntKind.u8 0, Value.int IntKind.u8 0, Value.int IntKind.u8 0, Value.int IntKind.u8 0, Value.int IntKind.u8 0, Value.int IntKind.u8 0, Value.int IntKind.u8 0, Value.int IntKind.u8 0, Value.int IntKind.u8 0, Value.int IntKind.u8 0, Value.int IntKind.u8 0, Value.int IntKind.u8 0, Value.int IntKind.u8 0, Value.int IntKind.u8 0, Value.int IntKind.u8 0, Value.int IntKind.u8 0, Value.int IntKind.u8 0, Value.int IntKind.u8 0, Value.int IntKind.u8 0, Value.int IntKind.u8 0, Value.int IntKind.u8 0, Value.int IntKind.u8 0, Value.int IntKind.u8 0, Value.int IntKind.u8 0, Value.int IntKind.u8 0, Value.int IntKind.u8 0, Value.int IntKind.u8 0, Value.int IntKind.u8 0, Value.int IntKind.u8 0, Value.int IntKind.u8 0, Value.int IntKind.u8 0] 24 (0, 0)) := heap_alloc_new _ _
    have hB0 : Below w.heap.size w (w.alloc (.cells #[Value.int IntKind.u8 0, Value.int IntKind.u8 0, Value.int IntKind.u8 0, Value.int IntKind.u8 0, Value.int IntKind.u8 0, Value.int IntKind.u8 0, Value.int IntKind.u8 0, Value.int IntKind.u8 0, Value.int IntKind.u8 0, Value.int IntKind.u8 0, Value.int IntKind.u8 0, Value.int IntKind.u8 0, Value.int IntKind.u8 0, Value.int IntKind.u8 0, Value.int IntKind.u8 0, Value.int IntKind.u8 0, Value.int IntKind.u8 0, Value.int IntKind.u8 0, Value.int IntKind.u8 0, Value.int IntKind.u8 0, Value.int IntKind.u8 0, Value.int IntKind.u8 0, Value.int IntKind.u8 0, Value.int IntKind.u8 0, Value.int IntKind.u8 0, Value.int IntKind.u8 0, Value.int IntKind.u8 0, Value.int IntKind.u8 0, Value.int IntKind.u8 0, Value.int IntKind.u8 0, Value.int IntKind.u8 0, Value.int IntKind.u8 0] 24)) := (Below.refl _ _).alloc (Nat.le_refl _) _
    have HO1 := hid hO0; have HW1 := hid hB0
    clear hO0 hB0
    generalize w.alloc (.cells #[Value.int IntKind.u8 0, Value.int IntKind.u8 0, Value.int IntKind.u8 0, Value.int IntKind.u8 0, Value.int IntKind.u8 0, Value.int IntKind.u8 0, Value.int IntKind.u8 0, Value.int IntKind.u8 0, Value.int IntKind.u8 0, Value.int IntKind.u8 0, Value.int IntKind.u8 0, Value.int IntKind.u8 0, Value.int IntKind.u8 0, Value.int IntKind.u8 0, Value.int IntKind.u8 0, Value.int IntKind.u8 0, Value.int IntKind.u8 0, Value.int IntKind.u8 0, Value.int IntKind.u8 0, Value.int IntKind.u8 0, Value.int IntKind.u8 0, Value.int IntKind.u8 0, Value.int IntKind.u8 0, Value.int IntKind.u8 0, Value.int IntKind.u8 0, Value.int IntKind.u8 0, Value.int IntKind.u8 0, Value.int IntKind.u8 0, Value.int IntKind.u8 0, Value.int IntKind.u8 0, Value.int IntKind.u8 0, Value.int IntKind.u8 0] 24) = w1 at *
    obtain ⟨kl, hkl⟩ : ∃ kl, kl = key := ⟨_, rfl⟩
    have HK1 : Hid (Rd w1 .u8 Ak kl) := hid (by rw [hkl]; exact HRk.out.below HW1.out)
    have HKN : Hid (kl.length = nk) := hid (by rw [hkl]; exact HNk.out)
    have HKB : Hid (Bytes kl) := hid (by rw [hkl]; exact HBk.out)
    have HKO : Box (keyOf key = kl ++ List.replicate (64 - nk) 0) := ⟨by unfold keyOf; rw [HNk.out, if_neg hlong, hkl]; show key ++ List.replicate (64 - key.length) 0 = _; rw [HNk.out]⟩
    have hk64 : nk ≤ 64 := by omega
    clear hkl HRk HBk HNk
    have hl1 : w.heap.size < w1.heap.size := lt_of_block HO1.out
    refine hid ?_
    refine Calls.mono (new_calls w1) ?_
    rintro e w2 ⟨rfl, hI2, hB2⟩
    have HI2 := hid hI2; have HB2 := hid hB2
    clear hI2 hB2
    have hl2 : w1.heap.size < w2.heap.size := lt_of_block HI2.out
    go_wp2_with (go_at_call 33; refine hold ?_)
    refine hid ?_
    refine Calls.mono (new_calls w2) ?_
    rintro e w3 ⟨rfl, hI3, hB3⟩
    have HI3 := hid hI3; have HB3 := hid hB3
    clear hI3 hB3
    have hl3 : w2.heap.size < w3.heap.size := lt_of_block HI3.out
    go_wp2_with (with_reducible refine hold_op (o := ⟨some 22, _, _, _, _, _⟩) ?_)
    have hX0 : (w3.alloc (.cells #[Value.int IntKind.u8 0, Value.int IntKind.u8 0, Value.int IntKind.u8 0, Value.int IntKind.u8 0, Value.int IntKind.u8 0, Value.int IntKind.u8 0, Value.int IntKind.u8 0, Value.int IntKind.u8 0, Value.int IntKind.u8 0, Value.int IntKind.u8 0, Value.int IntKind.u8 0, Value.int IntKind.u8 0, Value.int IntKind.u8 0, Value.int IntKind.u8 0, Value.int IntKind.u8 0, Value.int IntKind.u8 0, Value.int IntKind.u8 0, Value.int IntKind.u8 0, Value.int IntKind.u8 0, Value.int IntKind.u8 0, Value.int IntKind.u8 0, Value.int IntKind.u8 0, Value.int IntKind.u8 0, Value.int IntKind.u8 0, Value.int IntKind.u8 0, Value.int IntKind.u8 0, Value.int IntKind.u8 0, Value.int IntKind.u8 0, Value.int IntKind.u8 0, Value.int IntKind.u8 0, Value.int IntKind.u8 0, Value.int IntKind.u8 0, Value.int IntKind.u8 0, Value.int IntKind.u8 0, Value.int IntKind.u8 0, Value.int IntKind.u8 0, Value.int IntKind.u8 0, Value.int IntKind.u8 0, Value.int IntKind.u8 0, Value.int IntKind.u8 0, Value.int IntKind.u8 0, Value.int IntKind.u8 0, Value.int IntKind.u8 0, Value.int IntKind.u8 0, Value.int IntKind.u8 0, Value.int IntKind.u8 0, Value.int IntKind.u8 0, Value.int IntKind.u8 0, Value.int IntKind.u8 0, Value.int IntKind.u8 0, Value.int IntKind.u8 0, Value.int IntKind.u8 0, Value.int IntKind.u8 0, Value.int IntKind.u8 0, Value.int IntKind.u8 0, Value.int IntKind.u8 0, Value.int IntKind.u8 0, Value.int IntKind.u8 0, Value.int IntKind.u8 0, Value.int IntKind.u8 0, Value.int IntKind.u8 0, Value.int IntKind.u8 0, Value.int IntKind.u8 0, Value.int IntKind.u8 0] 71)).heap[w3.heap.size]? = some (.cells #[Value.int IntKind.u8 0, Value.int IntKind.u8 0, Value.int IntKind.u8 0, Value.int IntKind.u8 0, Value.int IntKind.u8 0, Value.int IntKind.u8 0, Value.int IntKind.u8 0, Value.int IntKind.u8 0, Value.int IntKind.u8 0, Value.int IntKind.u8 0, Value.int IntKind.u8 0, Value.int IntKind.u8 0, Value.int IntKind.u8 0, Value.int IntKind.u8 0, Value.int IntKind.u8 0, Value.int IntKind.u8 0, Value.int IntKind.u8 0, Value.int IntKind.u8 0, Value.int IntKind.u8 0, Value.int IntKind.u8 0, Value.int IntKind.u8 0, Value.int IntKind.u8 0, Value.int IntKind.u8 0, Value.int IntKind.u8 0, Value.int IntKind.u8 0, Value.int IntKind.u8 0, Value.int IntKind.u8 0, Value.int IntKind.u8 0, Value.int IntKind.u8 0, Value.int IntKind.u8 0, Value.int IntKind.u8 0, Value.int IntKind.u8 0, Value.int IntKind.u8 0, Value.int IntKind.u8 0, Value.int IntKind.u8 0, Value.int IntKind.u8 0, Value.int IntKind.u8 0, Value.int IntKind.u8 0, Value.int IntKind.u8 0, Value.int IntKind.u8 0, Value.int IntKind.u8 0, Value.int IntKind.u8 0, Value.int IntKind.u8 0, Value.int IntKind.u8 0, Value.int IntKind.u8 0, Value.int IntKind.u8 0, Value.int IntKind.u8 0, Value.int IntKind.u8 0, Value.int IntKind.u8 0, Value.int IntKind.u8 0, Value.int IntKind.u8 0, Value.int IntKind.u8 0, Value.int IntKind.u8 0, Value.int IntKind.u8 0, Value.int IntKind.u8 0, Value.int IntKind.u8 0, Value.int IntKind.u8 0, Value.int IntKind.u8 0, Value.int IntKind.u8 0, Value.int IntKind.u8 0, Value.int IntKind.u8 0, Value.int IntKind.u8 0, Value.int IntKind.u8 0, Value.int IntKind.u8 0] 71 (0, 0)) := heap_alloc_new _ _
    have hB0 : Below w3.heap.size w3 (w3.alloc (.cells #[Value.int IntKind.u8 0, Value.int IntKind.u8 0, Value.int IntKind.u8 0, Value.int IntKind.u8 0, Value.int IntKind.u8 0, Value.int IntKind.u8 0, Value.int IntKind.u8 0, Value.int IntKind.u8 0, Value.int IntKind.u8 0, Value.int IntKind.u8 0, Value.int IntKind.u8 0, Value.int IntKind.u8 0, Value.int IntKind.u8 0, Value.int IntKind.u8 0, Value.int IntKind.u8 0, Value.int IntKind.u8 0, Value.int IntKind.u8 0, Value.int IntKind.u8 0, Value.int IntKind.u8 0, Value.int IntKind.u8 0, Value.int IntKind.u8 0, Value.int IntKind.u8 0, Value.int IntKind.u8 0, Value.int IntKind.u8 0, Value.int IntKind.u8 0, Value.int IntKind.u8 0, Value.int IntKind.u8 0, Value.int IntKind.u8 0, Value.int IntKind.u8 0, Value.int IntKind.u8 0, Value.int IntKind.u8 0, Value.int IntKind.u8 0, Value.int IntKind.u8 0, Value.int IntKind.u8 0, Value.int IntKind.u8 0, Value.int IntKind.u8 0, Value.int IntKind.u8 0, Value.int IntKind.u8 0, Value.int IntKind.u8 0, Value.int IntKind.u8 0, Value.int IntKind.u8 0, Value.int IntKind.u8 0, Value.int IntKind.u8 0, Value.int IntKind.u8 0, Value.int IntKind.u8 0, Value.int IntKind.u8 0, Value.int IntKind.u8 0, Value.int IntKind.u8 0, Value.int IntKind.u8 0, Value.int IntKind.u8 0, Value.int IntKind.u8 0, Value.int IntKind.u8 0, Value.int IntKind.u8 0, Value.int IntKind.u8 0, Value.int IntKind.u8 0, Value.int IntKind.u8 0, Value.int IntKind.u8 0, Value.int IntKind.u8 0, Value.int IntKind.u8 0, Value.int IntKind.u8 0, Value.int IntKind.u8 0, Value.int IntKind.u8 0, Value.int IntKind.u8 0, Value.int IntKind.u8 0] 71)) := (Below.refl _ _).alloc (Nat.le_refl _) _
    have hs4 : (w3.alloc (.cells #[Value.int IntKind.u8 0, Value.int IntKind.u8 0, Value.int IntKind.u8 0, Value.int IntKind.u8 0, Value.int IntKind.u8 0, Value.int IntKind.u8 0, Value.int IntKind.u8 0, Value.int IntKind.u8 0, Value.int IntKind.u8 0, Value.int IntKind.u8 0, Value.int IntKind.u8 0, Value.int IntKind.u8 0, Value.int IntKind.u8 0, Value.int IntKind.u8 0, Value.int IntKind.u8 0, Value.int IntKind.u8 0, Value.int IntKind.u8 0, Value.int IntKind.u8 0, Value.int IntKind.u8 0, Value.int IntKind.u8 0, Value.int IntKind.u8 0, Value.int IntKind.u8 0, Value.int IntKind.u8 0, Value.int IntKind.u8 0, Value.int IntKind.u8 0, Value.int IntKind.u8 0, Value.int IntKind.u8 0, Value.int IntKind.u8 0, Value.int IntKind.u8 0, Value.int IntKind.u8 0, Value.int IntKind.u8 0, Value.int IntKind.u8 0, Value.int IntKind.u8 0, Value.int IntKind.u8 0, Value.int IntKind.u8 0, Value.int IntKind.u8 0, Value.int IntKind.u8 0, Value.int IntKind.u8 0, Value.int IntKind.u8 0, Value.int IntKind.u8 0, Value.int IntKind.u8 0, Value.int IntKind.u8 0, Value.int IntKind.u8 0, Value.int IntKind.u8 0, Value.int IntKind.u8 0, Value.int IntKind.u8 0, Value.int IntKind.u8 0, Value.int IntKind.u8 0, Value.int IntKind.u8 0, Value.int IntKind.u8 0, Value.int IntKind.u8 0, Value.int IntKind.u8 0, Value.int IntKind.u8 0, Value.int IntKind.u8 0, Value.int IntKind.u8 0, Value.int IntKind.u8 0, Value.int IntKind.u8 0, Value.int IntKind.u8 0, Value.int IntKind.u8 0, Value.int IntKind.u8 0, Value.int IntKind.u8 0, Value.int IntKind.u8 0, Value.int IntKind.u8 0, Value.int IntKind.u8 0] 71)).heap.size = w3.heap.size + 1 := by simp
    have HX0 := hid hX0; have HB4 := hid hB0; have HS4 := hid hs4
    clear hX0 hB0 hs4
    generalize w3.alloc (.cells #[Value.int IntKind.u8 0, Value.int IntKind.u8 0, Value.int IntKind.u8 0, Value.int IntKind.u8 0, Value.int IntKind.u8 0, Value.int IntKind.u8 0, Value.int IntKind.u8 0, Value.int IntKind.u8 0, Value.int IntKind.u8 0, Value.int IntKind.u8 0, Value.int IntKind.u8 0, Value.int IntKind.u8 0, Value.int IntKind.u8 0, Value.int IntKind.u8 0, Value.int IntKind.u8 0, Value.int IntKind.u8 0, Value.int IntKind.u8 0, Value.int IntKind.u8 0, Value.int IntKind.u8 0, Value.int IntKind.u8 0, Value.int IntKind.u8 0, Value.int IntKind.u8 0, Value.int IntKind.u8 0, Value.int IntKind.u8 0, Value.int IntKind.u8 0, Value.int IntKind.u8 0, Value.int IntKind.u8 0, Value.int IntKind.u8 0, Value.int IntKind.u8 0, Value.int IntKind.u8 0, Value.int IntKind.u8 0, Value.int IntKind.u8 0, Value.int IntKind.u8 0, Value.int IntKind.u8 0, Value.int IntKind.u8 0, Value.int IntKind.u8 0, Value.int IntKind.u8 0, Value.int IntKind.u8 0, Value.int IntKind.u8 0, Value.int IntKind.u8 0, Value.int IntKind.u8 0, Value.int IntKind.u8 0, Value.int IntKind.u8 0, Value.int IntKind.u8 0, Value.int IntKind.u8 0, Value.int IntKind.u8 0, Value.int IntKind.u8 0, Value.int IntKind.u8 0, Value.int IntKind.u8 0, Value.int IntKind.u8 0, Value.int IntKind.u8 0, Value.int IntKind.u8 0, Value.int IntKind.u8 0, Value.int IntKind.u8 0, Value.int IntKind.u8 0, Value.int IntKind.u8 0, Value.int IntKind.u8 0, Value.int IntKind.u8 0, Value.int IntKind.u8 0, Value.int IntKind.u8 0, Value.int IntKind.u8 0, Value.int IntKind.u8 0, Value.int IntKind.u8 0, Value.int IntKind.u8 0] 71) = w4 at *
    have hY0 : (w4.alloc (.cells #[Value.int IntKind.u8 0, Value.int IntKind.u8 0, Value.int IntKind.u8 0, Value.int IntKind.u8 0, Value.int IntKind.u8 0, Value.int IntKind.u8 0, Value.int IntKind.u8 0, Value.int IntKind.u8 0, Value.int IntKind.u8 0, Value.int IntKind.u8 0, Value.int IntKind.u8 0, Value.int IntKind.u8 0, Value.int IntKind.u8 0, Value.int IntKind.u8 0, Value.int IntKind.u8 0, Value.int IntKind.u8 0, Value.int IntKind.u8 0, Value.int IntKind.u8 0, Value.int IntKind.u8 0, Value.int IntKind.u8 0, Value.int IntKind.u8 0, Value.int IntKind.u8 0, Value.int IntKind.u8 0, Value.int IntKind.u8 0, Value.int IntKind.u8 0, Value.int IntKind.u8 0, Value.int IntKind.u8 0, Value.int IntKind.u8 0, Value.int IntKind.u8 0, Value.int IntKind.u8 0, Value.int IntKind.u8 0, Value.int IntKind.u8 0, Value.int IntKind.u8 0, Value.int IntKind.u8 0, Value.int IntKind.u8 0, Value.int IntKind.u8 0, Value.int IntKind.u8 0, Value.int IntKind.u8 0, Value.int IntKind.u8 0, Value.int IntKind.u8 0, Value.int IntKind.u8 0, Value.int IntKind.u8 0, Value.int IntKind.u8 0, Value.int IntKind.u8 0, Value.int IntKind.u8 0, Value.int IntKind.u8 0, Value.int IntKind.u8 0, Value.int IntKind.u8 0, Value.int IntKind.u8 0, Value.int IntKind.u8 0, Value.int IntKind.u8 0, Value.int IntKind.u8 0, Value.int IntKind.u8 0, Value.int IntKind.u8 0, Value.int IntKind.u8 0, Value.int IntKind.u8 0, Value.int IntKind.u8 0, Value.int IntKind.u8 0, Value.int IntKind.u8 0, Value.int IntKind.u8 0, Value.int IntKind.u8 0, Value.int IntKind.u8 0, Value.int IntKind.u8 0, Value.int IntKind.u8 0] 71)).heap[w3.heap.size + 1]? = some (.cells #[Value.int IntKind.u8 0, Value.int IntKind.u8 0, Value.int IntKind.u8 0, Value.int IntKind.u8 0, Value.int IntKind.u8 0, Value.int IntKind.u8 0, Value.int IntKind.u8 0, Value.int IntKind.u8 0, Value.int IntKind.u8 0, Value.int IntKind.u8 0, Value.int IntKind.u8 0, Value.int IntKind.u8 0, Value.int IntKind.u8 0, Value.int IntKind.u8 0, Value.int IntKind.u8 0, Value.int IntKind.u8 0, Value.int IntKind.u8 0, Value.int IntKind.u8 0, Value.int IntKind.u8 0, Value.int IntKind.u8 0, Value.int IntKind.u8 0, Value.int IntKind.u8 0, Value.int IntKind.u8 0, Value.int IntKind.u8 0, Value.int IntKind.u8 0, Value.int IntKind.u8 0, Value.int IntKind.u8 0, Value.int IntKind.u8 0, Value.int IntKind.u8 0, Value.int IntKind.u8 0, Value.int IntKind.u8 0, Value.int IntKind.u8 0, Value.int IntKind.u8 0, Value.int IntKind.u8 0, Value.int IntKind.u8 0, Value.int IntKind.u8 0, Value.int IntKind.u8 0, Value.int IntKind.u8 0, Value.int IntKind.u8 0, Value.int IntKind.u8 0, Value.int IntKind.u8 0, Value.int IntKind.u8 0, Value.int IntKind.u8 0, Value.int IntKind.u8 0, Value.int IntKind.u8 0, Value.int IntKind.u8 0, Value.int IntKind.u8 0, Value.int IntKind.u8 0, Value.int IntKind.u8 0, Value.int IntKind.u8 0, Value.int IntKind.u8 0, Value.int IntKind.u8 0, Value.int IntKind.u8 0, Value.int IntKind.u8 0, Value.int IntKind.u8 0, Value.int IntKind.u8 0, Value.int IntKind.u8 0, Value.int IntKind.u8 0, Value.int IntKind.u8 0, Value.int IntKind.u8 0, Value.int IntKind.u8 0, Value.int IntKind.u8 0, Value.int IntKind.u8 0, Value.int IntKind.u8 0] 71 (0, 0)) := by rw [← HS4.out]; exact heap_alloc_new _ _
    have hB5 : Below w4.heap.size w4 (w4.alloc (.cells #[Value.int IntKind.u8 0, Value.int IntKind.u8 0, Value.int IntKind.u8 0, Value.int IntKind.u8 0, Value.int IntKind.u8 0, Value.int IntKind.u8 0, Value.int IntKind.u8 0, Value.int IntKind.u8 0, Value.int IntKind.u8 0, Value.int IntKind.u8 0, Value.int IntKind.u8 0, Value.int IntKind.u8 0, Value.int IntKind.u8 0, Value.int IntKind.u8 0, Value.int IntKind.u8 0, Value.int IntKind.u8 0, Value.int IntKind.u8 0, Value.int IntKind.u8 0, Value.int IntKind.u8 0, Value.int IntKind.u8 0, Value.int IntKind.u8 0, Value.int IntKind.u8 0, Value.int IntKind.u8 0, Value.int IntKind.u8 0, Value.int IntKind.u8 0, Value.int IntKind.u8 0, Value.int IntKind.u8 0, Value.int IntKind.u8 0, Value.int IntKind.u8 0, Value.int IntKind.u8 0, Value.int IntKind.u8 0, Value.int IntKind.u8 0, Value.int IntKind.u8 0, Value.int IntKind.u8 0, Value.int IntKind.u8 0, Value.int IntKind.u8 0, Value.int IntKind.u8 0, Value.int IntKind.u8 0, Value.int IntKind.u8 0, Value.int IntKind.u8 0, Value.int IntKind.u8 0, Value.int IntKind.u8 0, Value.int IntKind.u8 0, Value.int IntKind.u8 0, Value.int IntKind.u8 0, Value.int IntKind.u8 0, Value.int IntKind.u8 0, Value.int IntKind.u8 0, Value.int IntKind.u8 0, Value.int IntKind.u8 0, Value.int IntKind.u8 0, Value.int IntKind.u8 0, Value.int IntKind.u8 0, Value.int IntKind.u8 0, Value.int IntKind.u8 0, Value.int IntKind.u8 0, Value.int IntKind.u8 0, Value.int IntKind.u8 0, Value.int IntKind.u8 0, Value.int IntKind.u8 0, Value.int IntKind.u8 0, Value.int IntKind.u8 0, Value.int IntKind.u8 0, Value.int IntKind.u8 0] 71)) := (Below.refl _ _).alloc (Nat.le_refl _) _
    have HX5 := hid ((hB5.block _ (lt_of_block HX0.out)).trans HX0.out)
    have HY5 := hid hY0
    have HB5 := hid (below_then HB4.out hB5)
    clear hY0 hB5 HB4 HX0
    generalize w4.alloc (.cells #[Value.int IntKind.u8 0, Value.int IntKind.u8 0, Value.int IntKind.u8 0, Value.int IntKind.u8 0, Value.int IntKind.u8 0, Value.int IntKind.u8 0, Value.int IntKind.u8 0, Value.int IntKind.u8 0, Value.int IntKind.u8 0, Value.int IntKind.u8 0, Value.int IntKind.u8 0, Value.int IntKind.u8 0, Value.int IntKind.u8 0, Value.int IntKind.u8 0, Value.int IntKind.u8 0, Value.int IntKind.u8 0, Value.int IntKind.u8 0, Value.int IntKind.u8 0, Value.int IntKind.u8 0, Value.int IntKind.u8 0, Value.int IntKind.u8 0, Value.int IntKind.u8 0, Value.int IntKind.u8 0, Value.int IntKind.u8 0, Value.int IntKind.u8 0, Value.int IntKind.u8 0, Value.int IntKind.u8 0, Value.int IntKind.u8 0, Value.int IntKind.u8 0, Value.int IntKind.u8 0, Value.int IntKind.u8 0, Value.int IntKind.u8 0, Value.int IntKind.u8 0, Value.int IntKind.u8 0, Value.int IntKind.u8 0, Value.int IntKind.u8 0, Value.int IntKind.u8 0, Value.int IntKind.u8 0, Value.int IntKind.u8 0, Value.int IntKind.u8 0, Value.int IntKind.u8 0, Value.int IntKind.u8 0, Value.int IntKind.u8 0, Value.int IntKind.u8 0, Value.int IntKind.u8 0, Value.int IntKind.u8 0, Value.int IntKind.u8 0, Value.int IntKind.u8 0, Value.int IntKind.u8 0, Value.int IntKind.u8 0, Value.int IntKind.u8 0, Value.int IntKind.u8 0, Value.int IntKind.u8 0, Value.int IntKind.u8 0, Value.int IntKind.u8 0, Value.int IntKind.u8 0, Value.int IntKind.u8 0, Value.int IntKind.u8 0, Value.int IntKind.u8 0, Value.int IntKind.u8 0, Value.int IntKind.u8 0, Value.int IntKind.u8 0, Value.int IntKind.u8 0, Value.int IntKind.u8 0] 71) = w5 at *
    have HK5 : Hid (Rd w5 .u8 Ak kl) := hid (((HK1.out.below HB2.out).below HB3.out).below HB5.out)
    refine hid ?_
    refine wpList_copy_grown rfl (.tmp 20) (.tmp 21) 22 22 rfl 5 elemB.1 (by kernel_rfl) (some ⟨w3.heap.size, 0, none⟩) Ak 64 64 nk ck rfl rfl w3.heap.size 0 ((List.replicate 64 0).map (Value.int .u8)) 71 HX5.out (kl.map (Value.int .u8)) (by rw [List.length_map, HKN.out]; exact (Nat.min_eq_left hk64).symm) (fun hp => ⟨rfl, HK5.out.src (by simpa using hp)⟩) (by rw [List.length_map, HKN.out, List.length_map, List.length_replicate]; omega) (fun u hu => by obtain ⟨y, _, rfl⟩ := List.mem_map.1 hu; rfl) ?_
    intro w6 HX6 hg6
    have HK : Box (splice ((List.replicate 64 0).map (Value.int .u8)) 0 (kl.map (Value.int .u8)) = (keyOf key).map (Value.int .u8)) := ⟨by rw [splice_pad _ _ (by rw [HKN.out]; exact hk64), HKN.out, HKO.out]⟩
    have HX7 : Hid (w6.heap[w3.heap.size]? = some (.cells (((keyOf key).map (Value.int .u8)).toArray) 71 (0, 0))) := hid (by rw [← HK.out]; exact HX6.out)
    have HY6 := hid ((hg6.block _ (lt_of_block HY5.out) (fun h => by injection h with h; omega)).trans HY5.out)
    have HB6 : Hid (Below w3.heap.size w3 w6) := hid (HB5.out.grown hg6 HB5.out.size (fun k hk => by injection hk with hk; omega))
    have HKL := hid (keyOf_len key)
    have HKO0 := HKO
    clear HX6 hg6 HX5 HY5 HB5 HK5 HK HK1 HKN HKO
    obtain ⟨KO, hKO⟩ : ∃ KO, KO = keyOf key := ⟨_, rfl⟩
    rw [← hKO] at HX7 HKL
    have HKO : Box (KO = keyOf key) := ⟨hKO⟩
    have HKOB : Hid (Bytes KO) := hid (by
      rw [hKO, HKO0.out]
      exact HKB.out.append (fun x hx => by rw [List.eq_of_mem_replicate hx]; omega))
    clear hKO HKO0
    go_wp2_with (with_reducible refine hold_op (o := ⟨some 23, _, _, _, _, _⟩) ?_)
    refine hid ?_
    refine wpList_load_row rfl 71 (.tmp 8) rfl w3.heap.size rfl 71 _ (0, 0) _ HX7.out Tryd.underlying71 rfl (by rw [List.size_toArray, List.length_map, HKL.out]; kernel_rfl) ?_
    refine wpList_store_row rfl 71 (.tmp 9) (.tmp 23) rfl (w3.heap.size + 1) _ rfl rfl 71 _ HY6.out (by rw [List.size_toArray, List.length_map, HKL.out]; kernel_rfl) (by show 64 = (KO.map (Value.int .u8)).length; rw [List.length_map, HKL.out]) (map_one _) ?_
    have HY8 := hid (setRow_heap w6 (w3.heap.size + 1) _ ((KO.map (Value.int .u8)).toArray) 71 _ HY6.out)
    have HX8 := hid ((setRow_other w6 (w3.heap.size + 1) w3.heap.size ((KO.map (Value.int .u8)).toArray) (by omega)).trans HX7.out)
    have HB8 := hid (below_setRow HB6.out (Nat.le_succ _) ((KO.map (Value.int .u8)).toArray))
    clear HY6 HX7 HB6
    generalize w6.setRow (w3.heap.size + 1) ((KO.map (Value.int .u8)).toArray) = w8 at *
    generalize (KO.map (Value.int .u8)).toArray = KA
    go_wp2
    go_loopw [24] (fun i w' => ∃ k : Nat, k ≤ 64 ∧ i = .int .i64 k ∧ w'.heap[w3.heap.size]? = some (.cells (((xorTo KO 54 k).map (Value.int .u8)).toArray) 71 (0, 0)) ∧ w'.heap[w3.heap.size + 1]? = some (.cells (((xorTo KO 92 k).map (Value.int .u8)).toArray) 71 (0, 0)) ∧ Below w3.heap.size w3 w') (fun i _ => 64 - (intOf i).toNat)
    case atStart => exact ⟨0, by omega, rfl, HX8.out, HY8.out, HB8.out⟩
    case round =>
      obtain ⟨k, hk, rfl, hX, hY, hB⟩ := hrel
      have HXr := hid hX; have HYr := hid hY; have HBr := hid hB
      clear hX hY hB HX8 HY8 HB8
      by_cases hlt : k < 64
      · have hk0 : (0 : Int) ≤ (k : Int) := by omega
        have hk1 : (k : Int) < 64 := by omega
        have hkl : k < KO.length := by rw [HKL.out]; exact hlt
        have x0 : wr.cell? ⟨w3.heap.size, k, none⟩ = some (.int .u8 (KO.getD k 0)) := cellOf HXr.out (xorTo_at KO 54 k hkl)
        have x1 : wr.frozen? ⟨w3.heap.size, k, none⟩ = false := frozen_of_row _ _ _ _ _ HXr.out
        have hys : (wr.setCell ⟨w3.heap.size, k, none⟩ (.int .u8 (xorI (KO.getD k 0) 54))).heap[w3.heap.size + 1]? = some (.cells (((xorTo KO 92 k).map (Value.int .u8)).toArray) 71 (0, 0)) := (Below.heap_setCell _ _ _ _ (by simp)).trans HYr.out
        have y0 : (wr.setCell ⟨w3.heap.size, k, none⟩ (.int .u8 (xorI (KO.getD k 0) 54))).cell? ⟨w3.heap.size + 1, k, none⟩ = some (.int .u8 (KO.getD k 0)) := cellOf hys (xorTo_at KO 92 k hkl)
        have y1 : (wr.setCell ⟨w3.heap.size, k, none⟩ (.int .u8 (xorI (KO.getD k 0) 54))).frozen? ⟨w3.heap.size + 1, k, none⟩ = false := frozen_of_row _ _ _ _ _ hys
        have HS1 : Box ((((xorTo KO 54 k).map (Value.int .u8)).toArray).setIfInBounds k (.int .u8 (xorI (KO.getD k 0) 54)) = ((xorTo KO 54 (k + 1)).map (Value.int .u8)).toArray) := ⟨xorTo_set KO 54 k hkl⟩
        have HS2 : Box ((((xorTo KO 92 k).map (Value.int .u8)).toArray).setIfInBounds k (.int .u8 (xorI (KO.getD k 0) 92)) = ((xorTo KO 92 (k + 1)).map (Value.int .u8)).toArray) := ⟨xorTo_set KO 92 k hkl⟩
        have e54 : bits .xor .u8 (KO.getD k 0) 54 = xorI (KO.getD k 0) 54 := xorI_eq _ 54 (HKOB.out.at_ k).1
        have e92 : bits .xor .u8 (KO.getD k 0) 92 = xorI (KO.getD k 0) 92 := xorI_eq _ 92 (HKOB.out.at_ k).1
        have HYS := hid hys
        clear hys hkl
        obtain ⟨X5, hX5⟩ : ∃ X5, X5 = xorI (KO.getD k 0) 54 := ⟨_, rfl⟩
        obtain ⟨X9, hX9⟩ : ∃ X9, X9 = xorI (KO.getD k 0) 92 := ⟨_, rfl⟩
        rw [← hX5] at e54 y0 y1 HYS HS1
        rw [← hX9] at e92 HS2
        clear hX5 hX9
        generalize KO.getD k 0 = X0 at *
        go_wp2
        go_roundw
        case rel =>
          refine ⟨k + 1, by omega, by go_num, ?_, ?_, (HBr.out.setCell (Nat.le_refl _) _).setCell (Nat.le_succ _) _⟩
          · have := hs (i := k) (v := .int .u8 X5) HXr.out
            rw [HS1.out] at this
            exact (Below.heap_setCell _ _ _ _ (by simp)).trans this
          · have := hs (i := k) (v := .int .u8 X9) HYS.out
            rw [HS2.out] at this
            exact this
        case measure => simp [intOf]; omega
      · obtain rfl : k = 64 := by omega
        clear hlt hk
        have HXR := hid HXr.out
        have HYR := hid HYr.out
        rw [xorTo_all _ _ _ HKL.out] at HXR HYR
        clear HXr HYr
        have HL5 : Hid ((KO.map (xorI · 54)).length = 64) := hid (by rw [List.length_map]; exact HKL.out)
        have HL9 : Hid ((KO.map (xorI · 92)).length = 64) := hid (by rw [List.length_map]; exact HKL.out)
        have HB54 := hid (xorI_bytes KO 54)
        have HB92 := hid (xorI_bytes KO 92)
        have HM : Box (mac key bs = sha (KO.map (xorI · 92) ++ sha (KO.map (xorI · 54) ++ bs))) := ⟨by rw [HKO.out]; rfl⟩
        obtain ⟨K5, hK5⟩ : ∃ K5, K5 = KO.map (xorI · 54) := ⟨_, rfl⟩
        obtain ⟨K9, hK9⟩ : ∃ K9, K9 = KO.map (xorI · 92) := ⟨_, rfl⟩
        rw [← hK5] at HXR HL5 HB54 HM
        rw [← hK9] at HYR HL9 HB92 HM
        clear hK5 hK9 HKO HKL HKOB
        have HRX : Hid (Rd wr .u8 (some ⟨w3.heap.size, 0, none⟩) K5) := hid (Rd.row HXR.out (by rw [HL5.out]; omega))
        have HRY : Hid (Rd wr .u8 (some ⟨w3.heap.size + 1, 0, none⟩) K9) := hid (Rd.row HYR.out (by rw [HL9.out]; omega))
        have hly : w3.heap.size + 1 < wr.heap.size := lt_of_block HYR.out
        clear HXR HYR
        have HI2r := hid ((HI2.out.below HB3.out).below HBr.out)
        have HI3r := hid (HI3.out.below HBr.out)
        have HWr : Hid (Below w.heap.size w wr) := hid (below_then HW1.out (below_then HB2.out (below_then HB3.out HBr.out)))
        have HTr := hid (HT.out.below HWr.out)
        have HRr := hid (HR.out.below HWr.out)
        have HOr : Hid (wr.heap[w.heap.size]? = _) := hid ((HBr.out.block _ (by omega)).trans ((HB3.out.block _ (by omega)).trans ((HB2.out.block _ hl1).trans HO1.out)))
        have hT0 := HT.out.1
        clear HI2 HI3 HB2 HB3 HBr HW1 HO1
        go_wp2_with (go_at_call 20; refine hold ?_)
        refine hid ?_
        refine Calls.mono (write_calls w1.heap.size 64 64 _ [] K5 HL5.out wr HTr.out (St.new HI2r.out) (by omega) HRX.out (fun h => by simp at h) (fun _ b o e => by injection e with e; injection e with e1 e2; omega) HB54.out (by simp)) ?_
        rintro e wA ⟨rfl, hSA, hGA⟩
        rw [List.nil_append] at hSA
        have HSA := hid hSA
        have HI3A := hid (HI3r.out.kept hGA (fun h => by injection h with h; omega))
        have HRYA := hid (HRY.out.kept hGA (fun b o e h => by injection e with e; injection e with e1 e2; injection h with h; omega))
        have HWA : Hid (Below w.heap.size w wA) := hid (HWr.out.grown hGA HWr.out.size (fun k hk => by injection hk with hk; omega))
        have HTA := hid (HT.out.below HWA.out)
        have HRA := hid (HR.out.below HWA.out)
        have HOA : Hid (wA.heap[w.heap.size]? = _) := hid ((hGA.block _ (lt_of_block HOr.out) (fun h => by injection h with h; omega)).trans HOr.out)
        clear hSA hGA HI3r HRY HWr HTr HRr HOr HRX HI2r
        go_wp2_with (go_at_call 20; refine hold ?_)
        refine hid ?_
        refine Calls.mono (write_calls w1.heap.size c n A K5 bs HN.out wA HTA.out HSA.out (by omega) HRA.out HA.out (fun hp b o e => by have := HR.out.under (by rw [HN.out]; exact hp) e; omega) HBb.out (by rw [HL5.out]; omega)) ?_
        rintro e wB ⟨rfl, hSB, hGB⟩
        have HSB := hid hSB
        have HI3B := hid (HI3A.out.kept hGB (fun h => by injection h with h; omega))
        have HRYB := hid (HRYA.out.kept hGB (fun b o e h => by injection e with e; injection e with e1 e2; injection h with h; omega))
        have HWB : Hid (Below w.heap.size w wB) := hid (HWA.out.grown hGB HWA.out.size (fun k hk => by injection hk with hk; omega))
        have HTB := hid (HT.out.below HWB.out)
        have HOB : Hid (wB.heap[w.heap.size]? = _) := hid ((hGB.block _ (lt_of_block HOA.out) (fun h => by injection h with h; omega)).trans HOA.out)
        clear hSB hGB HI3A HRYA HWA HTA HRA HOA HSA
        go_wp2_with (go_at_call 21; refine hold ?_)
        refine hid ?_
        refine Calls.mono (hsum_calls w1.heap.size (K5 ++ bs) wB HTB.out HSB.out (by rw [List.length_append, HL5.out, HN.out]; omega)) ?_
        rintro e wC ⟨rfl, hBC⟩
        obtain ⟨S, hS⟩ : ∃ S, S = sha (K5 ++ bs) := ⟨_, rfl⟩
        rw [← hS]
        rw [← hS] at HM
        have HSL : Hid (S.length = 32) := hid (by rw [hS]; exact sha_len _)
        have HSBy : Hid (Bytes S) := hid (by rw [hS]; exact sha_bytes _)
        clear hS
        have HI3C := hid (HI3B.out.below hBC)
        have HRYC := hid (HRYB.out.below hBC)
        have HWC := hid (below_then HWB.out hBC)
        have HOC : Hid (wC.heap[w.heap.size]? = _) := hid ((hBC.block _ (lt_of_block HOB.out)).trans HOB.out)
        have hlC := HWC.out.size
        have hlg2 : w2.heap.size < wC.heap.size := lt_of_block HI3C.out
        clear hBC HI3B HRYB HWB HTB HOB HSB
        go_wp2_with (with_reducible refine hold_op (o := ⟨none, _, _, _, _, _⟩) ?_)
        have hO1 : (wC.alloc (.cells #[Value.int IntKind.u8 0, Value.int IntKind.u8 0, Value.int IntKind.u8 0, Value.int IntKind.u8 0, Value.int IntKind.u8 0, Value.int IntKind.u8 0, Value.int IntKind.u8 0, Value.int IntKind.u8 0, Value.int IntKind.u8 0, Value.int IntKind.u8 0, Value.int IntKind.u8 0, Value.int IntKind.u8 0, Value.int IntKind.u8 0, Value.int IntKind.u8 0, Value.int IntKind.u8 0, Value.int IntKind.u8 0, Value.int IntKind.u8 0, Value.int IntKind.u8 0, Value.int IntKind.u8 0, Value.int IntKind.u8 0, Value.int IntKind.u8 0, Value.int IntKind.u8 0, Value.int IntKind.u8 0, Value.int IntKind.u8 0, Value.int IntKind.u8 0, Value.int IntKind.u8 0, Value.int IntKind.u8 0, Value.int IntKind.u8 0, Value.int IntKind.u8 0, Value.int IntKind.u8 0, Value.int IntKind.u8 0, Value.int IntKind.u8 0] 24)).heap[wC.heap.size]? = some (.cells #[Value.int IntKind.u8 0, Value.int IntKind.u8 0, Value.int IntKind.u8 0, Value.int IntKind.u8 0, Value.int IntKind.u8 0, Value.int IntKind.u8 0, Value.int IntKind.u8 0, Value.int IntKind.u8 0, Value.int IntKind.u8 0, Value.int IntKind.u8 0, Value.int IntKind.u8 0, Value.int IntKind.u8 0, Value.int IntKind.u8 0, Value.int IntKind.u8 0, Value.int IntKind.u8 0, Value.int IntKind.u8 0, Value.int IntKind.u8 0, Value.int IntKind.u8 0, Value.int IntKind.u8 0, Value.int IntKind.u8 0, Value.int IntKind.u8 0, Value.int IntKind.u8 0, Value.int IntKind.u8 0, Value.int IntKind.u8 0, Value.int IntKind.u8 0, Value.int IntKind.u8 0, Value.int IntKind.u8 0, Value.int IntKind.u8 0, Value.int IntKind.u8 0, Value.int IntKind.u8 0, Value.int IntKind.u8 0, Value.int IntKind.u8 0] 24 (0, 0)) := heap_alloc_new _ _
        have hB1 : Below wC.heap.size wC (wC.alloc (.cells #[Value.int IntKind.u8 0, Value.int IntKind.u8 0, Value.int IntKind.u8 0, Value.int IntKind.u8 0, Value.int IntKind.u8 0, Value.int IntKind.u8 0, Value.int IntKind.u8 0, Value.int IntKind.u8 0, Value.int IntKind.u8 0, Value.int IntKind.u8 0, Value.int IntKind.u8 0, Value.int IntKind.u8 0, Value.int IntKind.u8 0, Value.int IntKind.u8 0, Value.int IntKind.u8 0, Value.int IntKind.u8 0, Value.int IntKind.u8 0, Value.int IntKind.u8 0, Value.int IntKind.u8 0, Value.int IntKind.u8 0, Value.int IntKind.u8 0, Value.int IntKind.u8 0, Value.int IntKind.u8 0, Value.int IntKind.u8 0, Value.int IntKind.u8 0, Value.int IntKind.u8 0, Value.int IntKind.u8 0, Value.int IntKind.u8 0, Value.int IntKind.u8 0, Value.int IntKind.u8 0, Value.int IntKind.u8 0, Value.int IntKind.u8 0] 24)) := (Below.refl _ _).alloc (Nat.le_refl _) _
        have HO1 := hid hO1; have HB1 := hid hB1
        clear hO1 hB1
        generalize wC.alloc (.cells #[Value.int IntKind.u8 0, Value.int IntKind.u8 0, Value.int IntKind.u8 0, Value.int IntKind.u8 0, Value.int IntKind.u8 0, Value.int IntKind.u8 0, Value.int IntKind.u8 0, Value.int IntKind.u8 0, Value.int IntKind.u8 0, Value.int IntKind.u8 0, Value.int IntKind.u8 0, Value.int IntKind.u8 0, Value.int IntKind.u8 0, Value.int IntKind.u8 0, Value.int IntKind.u8 0, Value.int IntKind.u8 0, Value.int IntKind.u8 0, Value.int IntKind.u8 0, Value.int IntKind.u8 0, Value.int IntKind.u8 0, Value.int IntKind.u8 0, Value.int IntKind.u8 0, Value.int IntKind.u8 0, Value.int IntKind.u8 0, Value.int IntKind.u8 0, Value.int IntKind.u8 0, Value.int IntKind.u8 0, Value.int IntKind.u8 0, Value.int IntKind.u8 0, Value.int IntKind.u8 0, Value.int IntKind.u8 0, Value.int IntKind.u8 0] 24) = wD at *
        refine hid ?_
        refine wpList_store_row rfl 24 (.tmp 11) (.tmp 45) rfl wC.heap.size _ rfl rfl 24 _ HO1.out (by rw [List.size_toArray, List.length_map, HSL.out]; kernel_rfl) (by show 32 = (S.map (Value.int .u8)).length; rw [List.length_map, HSL.out]) (map_one _) ?_
        have HSE := hid (setRow_heap wD wC.heap.size _ ((S.map (Value.int .u8)).toArray) 24 _ HO1.out)
        have HBE := hid (below_setRow HB1.out (Nat.le_refl _) ((S.map (Value.int .u8)).toArray))
        clear HO1 HB1
        generalize wD.setRow wC.heap.size ((S.map (Value.int .u8)).toArray) = wE at *
        have HRSE : Hid (Rd wE .u8 (some ⟨wC.heap.size, 0, none⟩) S) := hid (Rd.row HSE.out (by rw [HSL.out]; omega))
        have HI3E := hid (HI3C.out.below HBE.out)
        have HRYE := hid (HRYC.out.below HBE.out)
        have HWE := hid (below_then HWC.out HBE.out)
        have HTE := hid (HT.out.below HWE.out)
        have HOE : Hid (wE.heap[w.heap.size]? = _) := hid ((HBE.out.block _ (lt_of_block HOC.out)).trans HOC.out)
        clear HI3C HRYC HWC HOC HSE HBE
        go_wp2_with (go_at_call 20; refine hold ?_)
        refine hid ?_
        refine Calls.mono (write_calls w2.heap.size 64 64 _ [] K9 HL9.out wE HTE.out (St.new HI3E.out) (by omega) HRYE.out (fun h => by simp at h) (fun _ b o e => by injection e with e; injection e with e1 e2; omega) HB92.out (by simp)) ?_
        rintro e wF ⟨rfl, hSF, hGF⟩
        rw [List.nil_append] at hSF
        have HSF := hid hSF
        have HRSF := hid (HRSE.out.kept hGF (fun b o e h => by injection e with e; injection e with e1 e2; injection h with h; omega))
        have HWF : Hid (Below w.heap.size w wF) := hid (HWE.out.grown hGF HWE.out.size (fun k hk => by injection hk with hk; omega))
        have HTF := hid (HT.out.below HWF.out)
        have HOF : Hid (wF.heap[w.heap.size]? = _) := hid ((hGF.block _ (lt_of_block HOE.out) (fun h => by injection h with h; omega)).trans HOE.out)
        clear hSF hGF HI3E HRYE HWE HTE HOE HRSE
        go_wp2_with (go_at_call 20; refine hold ?_)
        refine hid ?_
        refine Calls.mono (write_calls w2.heap.size 32 32 _ K9 S HSL.out wF HTF.out HSF.out (by omega) HRSF.out (fun h => by simp at h) (fun _ b o e => by injection e with e; injection e with e1 e2; omega) HSBy.out (by rw [HL9.out]; omega)) ?_
        rintro e wG ⟨rfl, hSG, hGG⟩
        have HSG := hid hSG
        have HWG : Hid (Below w.heap.size w wG) := hid (HWF.out.grown hGG HWF.out.size (fun k hk => by injection hk with hk; omega))
        have HTG := hid (HT.out.below HWG.out)
        have HOG : Hid (wG.heap[w.heap.size]? = _) := hid ((hGG.block _ (lt_of_block HOF.out) (fun h => by injection h with h; omega)).trans HOF.out)
        clear hSG hGG HWF HTF HOF HRSF HSF
        go_wp2_with (go_at_call 21; refine hold ?_)
        refine hid ?_
        refine Calls.mono (hsum_calls w2.heap.size (K9 ++ S) wG HTG.out HSG.out (by rw [List.length_append, HL9.out, HSL.out]; omega)) ?_
        rintro e wH ⟨rfl, hBH⟩
        have HOH : Hid (wH.heap[w.heap.size]? = _) := hid ((hBH.block _ (lt_of_block HOG.out)).trans HOG.out)
        have HWH := hid (below_then HWG.out hBH)
        clear hBH HOG HWG
        obtain ⟨R, hR⟩ : ∃ R, R = ((sha (K9 ++ S)).map (Value.int .u8)).toArray := ⟨_, rfl⟩
        rw [← hR]
        have HRR : Box (R = (((mac key bs)).map (Value.int .u8)).toArray) := ⟨by rw [HM.out]; exact hR⟩
        have HHS : Hid (R.size = 32) := hid (by rw [hR]; exact sha_size _)
        have HHO : Hid (R.all (·.oneCell') = true) := hid (by rw [hR]; exact sha_one _)
        clear hR
        go_wp2_with (with_reducible refine hold_op (o := ⟨none, _, _, _, _, _⟩) ?_)
        refine hid ?_
        refine wpList_store_row rfl 24 (.tmp 4) (.tmp 53) rfl w.heap.size R rfl rfl 24 _ HOH.out (by rw [HHS.out]; kernel_rfl) HHS.out.symm HHO.out ?_
        have HO5 := hid (setRow_heap wH w.heap.size _ R 24 _ HOH.out)
        have HB5 := hid (below_setRow HWH.out (Nat.le_refl _) R)
        clear HOH HWH
        generalize wH.setRow w.heap.size R = wI at *
        go_wp2
        refine bodyPost_ret (v := .agg R) ?_ rfl ⟨by rw [HRR.out], HB5.out⟩
        exact results_cell_row (p := 4) rfl _ wI w.heap.size 24 R (0, 0) _ rfl HO5.out Tryd.underlying24 rfl (by rw [HHS.out]; kernel_rfl)
end Go.Proofs.YtaieajfgcnaedaaDoor
