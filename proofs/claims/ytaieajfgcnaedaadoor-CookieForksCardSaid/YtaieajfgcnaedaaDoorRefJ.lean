/-
  LAYER 6, WALKS: the law's deeds on a pair of keys: Seal, Open, Open of what was sealed, Open of what another secret seals.
-/
import Derived.Test.YtaieajfgcnaedaaDoorRefI
set_option linter.unusedVariables false
set_option linter.unusedSimpArgs false
namespace Go.Proofs.YtaieajfgcnaedaaDoor
open Go.RowKit

def sealB (ck : Ck) (sec : List Int) : List Int := if ck.may then ck.seal sec else []
def sealE (ck : Ck) : Int := if ck.may then 0 else 6
theorem sealB_len (ck : Ck) (sec : List Int) : (sealB ck sec).length ≤ 84 := by
  unfold sealB
  split
  · rw [Ck.seal_len]; exact Nat.le_refl _
  · simp
theorem sealB_bytes (ck : Ck) (sec : List Int) : Bytes (sealB ck sec) := by
  unfold sealB
  split
  · exact Ck.seal_bytes _ _
  · exact Bytes.nil
/-- What Seal tells. -/
def Sealed (B : List Int) (E : Int) (w : World) (e : Ending) (w' : World) : Prop :=
  ∃ A c, e = .returned (.tuple #[.slice A B.length c, .int .i64 E]) ∧ Rd w' .u8 A B ∧ (A = none → c = 0) ∧ B.length ≤ c ∧ c ≤ 9223372036854775807 ∧ Below w.heap.size w w'
theorem xseal_any (g : Nat) (ck : Ck) (hok : ck.Ok) (sec frm : List Int) (two : Bool) (w : World) (hT : Tab w) (hK : KSt w g sec frm two) :
    Calls Tryd.prog 24 #[.pointer (some ⟨g, 0, none⟩), .agg ck.cells] w (Sealed (sealB ck sec) (sealE ck) w) := by
  unfold sealB sealE
  by_cases hm : ck.may
  · rw [if_pos hm, if_pos hm]
    refine Calls.mono (seal_calls g ck hm hok sec frm two w hT hK) ?_
    rintro e w' ⟨v, rfl, ho, hb⟩
    obtain ⟨A, c, rfl, hA, hR, _⟩ := ho.rd (by rw [Ck.seal_len]; omega)
    exact ⟨A, c, rfl, hR, hA, ho.caps.1, ho.caps.2, hb⟩
  · rw [if_neg hm, if_neg hm]
    refine Calls.mono (seal_may g ck hm w) ?_
    rintro e w' ⟨rfl, hb⟩
    exact ⟨none, 0, rfl, Rd.nil _ _ _, fun _ => rfl, Nat.le_refl _, by omega, hb⟩
theorem yseal_any (g : Nat) (ck : Ck) (hok : ck.Ok) (M : List (List Int)) (sec : List Int) (hM : M.length ≤ 1000) (w : World) (hK : RSt w g (M ++ [sec])) :
    Calls Tryd.prog 48 #[.pointer (some ⟨g, 0, none⟩), .agg ck.cells] w (Sealed (sealB ck sec) (sealE ck) w) := by
  unfold sealB sealE
  by_cases hm : ck.may
  · rw [if_pos hm, if_pos hm]
    refine Calls.mono (rkseal_calls g ck hm hok M sec hM w hK) ?_
    rintro e w' ⟨v, rfl, ho, hb⟩
    obtain ⟨A, c, rfl, hA, hR, _⟩ := ho.rd (by rw [Ck.seal_len]; omega)
    exact ⟨A, c, rfl, hR, hA, ho.caps.1, ho.caps.2, hb⟩
  · rw [if_neg hm, if_neg hm]
    refine Calls.mono (rkseal_may g ck hm w) ?_
    rintro e w' ⟨rfl, hb⟩
    exact ⟨none, 0, rfl, Rd.nil _ _ _, fun _ => rfl, Nat.le_refl _, by omega, hb⟩
theorem Rd.offN {w w' : World} {A : Option Addr} {xs : List Int} (h : Rd w .u8 A xs) {q : Nat} (hq : NoInt w q) (hw : w.grownBy w' (some q)) : Rd w' .u8 A xs :=
  ⟨h.len, fun j hj => by
    obtain ⟨b, o, rfl, hl, hc⟩ := h.at_ j hj
    have he := hw.block b hl (fun e => by injection e with e; exact hq _ _ _ (e ▸ hc))
    exact ⟨b, o, rfl, Nat.lt_of_lt_of_le hl hw.size, by simp only [World.cell?, he] at hc ⊢; exact hc⟩⟩
theorem KSt.offN {w w' : World} {g : Nat} {sec frm : List Int} {two : Bool} (h : KSt w g sec frm two) {q : Nat} (hq : NoInt w q) (hne : g ≠ q) (hw : w.grownBy w' (some q)) : KSt w' g sec frm two := by
  obtain ⟨A1, n1, c1, A2, n2, c2, k1, k2, k3, k4, k5, k6, k7⟩ := h.ex
  exact ⟨⟨A1, n1, c1, A2, n2, c2, (hw.block g (lt_of_block k1) (fun e => hne (Option.some.inj e))).trans k1, k2, k3, k4.offN hq hw, k5.offN hq hw, k6, k7⟩, h.bs, h.bf, h.ls, h.lf⟩
theorem Sls.offN {w w' : World} {q : Nat} (hq : NoInt w q) (hw : w.grownBy w' (some q)) : ∀ {vs : List Value} {L : List (List Int)}, Sls w vs L → Sls w' vs L
  | [], [], _ => trivial
  | _ :: _, _ :: _, h => ⟨by obtain ⟨A, c, h1, h2, h3, h4, h5⟩ := h.1; exact ⟨A, c, h1, h2.offN hq hw, h3, h4, h5⟩, Sls.offN hq hw h.2⟩
theorem RSt.offN {w w' : World} {g : Nat} {L : List (List Int)} (h : RSt w g L) {q : Nat} (hq : NoInt w q) (hne : g ≠ q) {cs : Array Value} {t : TypeId} {fr : Nat × Nat} (hb : w.heap[q]? = some (.cells cs t fr)) (ht : t ≠ 22) (hw : w.grownBy w' (some q)) : RSt w' g L := by
  obtain ⟨v, row, base, h1, h2, h3⟩ := h.ex
  exact ⟨⟨v, row, base, (hw.block g (lt_of_block h1) (fun e => hne (Option.some.inj e))).trans h1, h2.kept hw (h2.apart hb ht), h3.offN hq hw⟩⟩
set_option maxHeartbeats 12800000 in
set_option maxRecDepth 100000 in
theorem pdo2 (p gx gy : Nat) (d : Dd) (D : Array Value) (A : Option Addr) (c : Nat) (hD : DCells D d A c) (hk : d.k = 2) (sec frm : List Int) (two : Bool) (L : List (List Int)) (last : List Int) (w : World) (hT : Tab w) (hP : PSt w p gx gy sec frm two L last) (hL : L.length ≤ 999) (hd : DOk w d A c) :
    Calls Tryd.prog 32 #[.pointer (some ⟨p, 0, none⟩), .agg D] w (Done p gx gy L.length w) := by
  obtain ⟨k, bs, ck, now, at_, by_, back⟩ := d
  simp only at hk
  subst hk
  have HP := hid hP; have HL := hid hL; have HT := hid hT
  have hB1 : Below w.heap.size w (w.alloc (.cells D 64)) := (Below.refl _ _).alloc (Nat.le_refl _) _
  have HD := hid (DBlk.new hD w 64); have HO := hid (hd.below hB1); have HB1 := hid hB1
  have y0 := HD.out.c0
  simp only at y0
  have hbl : bs.length ≤ 140737488351232 := Nat.le_trans hd.lc hd.cm
  have hlc : bs.length ≤ c := hd.lc
  have hcm : c ≤ 140737488351232 := hd.cm
  obtain ⟨A0', c0', k0, hRl, hAl⟩ := hP.blk
  have HK0 := hid k0; have HNE := hid hP.ne; have HRL := hid hRl; have HAL := hid hAl; have HNI := hid hP.noInt
  have y1 := HD.out.c1
  have y2 := HD.out.c15
  simp only at y1 y2
  clear hP hL hd hD k0 hB1 hRl hAl hT
  go_enter Tryd.func32, Tryd.ntmps32
  go_wp2_with (go_at_call 49; refine hold ?_)
  refine hid ?_
  generalize w.alloc (.cells D 64) = w1 at *
  refine Calls.mono (popen_calls p gx gy bs.length c A bs sec frm two L last now w1 (HT.out.below HB1.out) (HP.out.below HB1.out) (by have := HL.out; omega) rfl HO.out.rd HO.out.nil HO.out.by_ hlc (by omega) hbl) ?_
  rintro e w2 ⟨rfl, hb⟩
  have HB2 := hid (below_then HB1.out hb)
  clear y0 y1 y2 hb HD HO
  go_wp2
  go_ret
  exact ⟨rfl, ⟨_, _, _, _, _, HP.out.below HB2.out, by omega⟩, Kept3.of_below HB2.out⟩
set_option maxHeartbeats 12800000 in
set_option maxRecDepth 100000 in
theorem pdo1 (p gx gy : Nat) (d : Dd) (D : Array Value) (A : Option Addr) (c : Nat) (hD : DCells D d A c) (hk : d.k = 1) (sec frm : List Int) (two : Bool) (L : List (List Int)) (last : List Int) (w : World) (hT : Tab w) (hP : PSt w p gx gy sec frm two L last) (hL : L.length ≤ 999) (hd : DOk w d A c) :
    Calls Tryd.prog 32 #[.pointer (some ⟨p, 0, none⟩), .agg D] w (Done p gx gy L.length w) := by
  obtain ⟨k, bs, ck, now, at_, by_, back⟩ := d
  simp only at hk
  subst hk
  have HP := hid hP; have HL := hid hL; have HT := hid hT
  have hB1 : Below w.heap.size w (w.alloc (.cells D 64)) := (Below.refl _ _).alloc (Nat.le_refl _) _
  have HD := hid (DBlk.new hD w 64); have HO := hid (hd.below hB1); have HB1 := hid hB1
  have y0 := HD.out.c0
  simp only at y0
  have hbl : bs.length ≤ 140737488351232 := Nat.le_trans hd.lc hd.cm
  have hlc : bs.length ≤ c := hd.lc
  have hcm : c ≤ 140737488351232 := hd.cm
  obtain ⟨A0', c0', k0, hRl, hAl⟩ := hP.blk
  have HK0 := hid k0; have HNE := hid hP.ne; have HRL := hid hRl; have HAL := hid hAl; have HNI := hid hP.noInt
  have hpr := HP.out.lk.last
  obtain ⟨M, hM⟩ := hpr
  have HMM : Hid (L = M ++ [sec]) := hid hM
  have hMl : M.length ≤ 1000 := by have := congrArg List.length hM; simp at this; omega
  clear hM
  have hX : Box (∀ W, Tab W → KSt W gx sec frm two → Calls Tryd.prog 24 #[.pointer (some ⟨gx, 0, none⟩), .agg ck.cells] W (Sealed (sealB ck sec) (sealE ck) W)) := ⟨fun W h1 h2 => xseal_any gx ck HO.out.ck sec frm two W h1 h2⟩
  have hY : Box (∀ W, RSt W gy L → Calls Tryd.prog 48 #[.pointer (some ⟨gy, 0, none⟩), .agg ck.cells] W (Sealed (sealB ck sec) (sealE ck) W)) := ⟨fun W h2 => yseal_any gy ck HO.out.ck M sec hMl W (HMM.out ▸ h2)⟩
  have hbl2 := sealB_len ck sec
  have HSB := hid (sealB_bytes ck sec)
  have hE : sealE ck = 0 ∨ ¬ sealE ck = 0 := Classical.em _
  have HCK := hid HD.out.ck
  generalize sealB ck sec = B at *
  generalize sealE ck = E at *
  have hS : ∀ W : World, Below w.heap.size w W → W.heap[w.heap.size]? = (w.alloc (.cells D 64)).heap[w.heap.size]? → w.heap.size + 1 ≤ W.heap.size → W.cell? ⟨p, 0, none⟩ = some (.pointer (some ⟨gx, 0, none⟩)) ∧ W.cell? ⟨p, 1, none⟩ = some (.pointer (some ⟨gy, 0, none⟩)) ∧ W.rangeAt w.heap.size 2 ck.cells.toList := fun W h1 h2 h3 => by
    have hp : W.heap[p]? = _ := (h1.block p (lt_of_block HK0.out)).trans HK0.out
    exact ⟨cellOf hp rfl, cellOf hp rfl, (HD.out.keep (by simpa using h3) h2).ck⟩
  have hckz : ck.cells.toList.length = 13 := by rw [Array.length_toList]; exact Ck.size ck
  have HSS := hid hS
  have hx0 := hS _ hB1 rfl (by simp)
  have hs1 : (w.alloc (.cells D 64)).heap.size = w.heap.size + 1 := by simp
  clear hS hMl HCK
  clear hP hL hd hD k0 hB1 hRl hAl hT
  generalize ck.cells = R at *
  go_enter Tryd.func32, Tryd.ntmps32
  go_wp2_with fail
  generalize w.alloc (.cells D 64) = w1 at *
  refine wp_region_held_drew (S := fun W => W.cell? ⟨p, 0, none⟩ = some (.pointer (some ⟨gx, 0, none⟩)) ∧ W.cell? ⟨p, 1, none⟩ = some (.pointer (some ⟨gy, 0, none⟩)) ∧ W.rangeAt w.heap.size 2 R.toList) (by kernel_rfl) hx0 (fun hHeld => ?_)
  refine wpAnyH_take (i := 0) (oi := { dst := some 54, op := Op.move (Operand.tmp 0), type := 51, pos := "law.go:56", after := #[], guard := none }) (v := ?_) rfl (by kernel_rfl) (by kernel_rfl) (by kernel_rfl) (fun _ _ _ h => h) (Or.inl ⟨by rfl, ?_⟩) hHeld ?_
  rotate_left
  · (intro w hSw; (try dsimp only at hSw); go_simp; try with_reducible rfl)
  try simp only [Act.put, List.setIfInBounds_toArray, List.set_cons_succ, List.set_cons_zero]
  refine wpAnyH_take (i := 1) (oi := { dst := some 55, op := Op.nilCheck (Operand.tmp 54), type := 0, pos := "law.go:56", after := #[{ on := 0, ground := Ground.data }], guard := none }) (v := ?_) rfl (by kernel_rfl) (by kernel_rfl) (by kernel_rfl) (fun _ _ _ h => h) (Or.inl ⟨by rfl, ?_⟩) hHeld ?_
  rotate_left
  · (intro w hSw; (try dsimp only at hSw); go_simp; try with_reducible rfl)
  try simp only [Act.put, List.setIfInBounds_toArray, List.set_cons_succ, List.set_cons_zero]
  refine wpAnyH_take (i := 2) (oi := { dst := some 56, op := Op.fieldAddr 59 (Operand.tmp 55) 0, type := 0, pos := "law.go:56", after := #[{ on := 1, ground := Ground.data }], guard := none }) (v := ?_) rfl (by kernel_rfl) (by kernel_rfl) (by kernel_rfl) (fun _ _ _ h => h) (Or.inl ⟨by rfl, ?_⟩) hHeld ?_
  rotate_left
  · (intro w hSw; (try dsimp only at hSw); go_simp; try with_reducible rfl)
  try simp only [Act.put, List.setIfInBounds_toArray, List.set_cons_succ, List.set_cons_zero]
  refine wpAnyH_take (i := 3) (oi := { dst := some 57, op := Op.load 41 (Operand.tmp 56), type := 41, pos := "law.go:56", after := #[{ on := 2, ground := Ground.data }], guard := none }) (v := ?_) rfl (by kernel_rfl) (by kernel_rfl) (by kernel_rfl) (fun _ _ _ h => h) (Or.inl ⟨by rfl, ?_⟩) hHeld ?_
  rotate_left
  · (intro w hSw; (try dsimp only at hSw); go_simp; try with_reducible rfl)
  try simp only [Act.put, List.setIfInBounds_toArray, List.set_cons_succ, List.set_cons_zero]
  refine wpAnyH_take (i := 4) (oi := { dst := some 58, op := Op.fieldAddr 64 (Operand.tmp 3) 2, type := 0, pos := "law.go:56", after := #[], guard := none }) (v := ?_) rfl (by kernel_rfl) (by kernel_rfl) (by kernel_rfl) (fun _ _ _ h => h) (Or.inl ⟨by rfl, ?_⟩) hHeld ?_
  rotate_left
  · (intro w hSw; (try dsimp only at hSw); go_simp; try with_reducible rfl)
  try simp only [Act.put, List.setIfInBounds_toArray, List.set_cons_succ, List.set_cons_zero]
  refine wpAnyH_take (i := 5) (oi := { dst := some 59, op := Op.load 40 (Operand.tmp 58), type := 40, pos := "law.go:56", after := #[{ on := 4, ground := Ground.data }], guard := none }) (v := .agg R) rfl (by kernel_rfl) (by kernel_rfl) (by kernel_rfl) (fun _ _ _ h => h) (yieldsIf_load_mid (by rfl) 40 (.tmp 58) rfl w.heap.size 2 rfl R.toList _ (fun W hW => hW.2.2) Tryd.underlying40 rfl (by rw [hckz]; kernel_rfl)) hHeld ?_
  try simp only [Act.put, List.setIfInBounds_toArray, List.set_cons_succ, List.set_cons_zero]
  refine wpAnyH_ready (rs := [6]) (by kernel_rfl) (by simp) ?_
  refine AllReadyH.cons (o := _) rfl (fun K hK => ?_) AllReadyH.nil
  go_simp
  go_at_call 24
  refine Calls.mono (hX.out w1.drew (HT.out.below HB1.out.drew) (HP.out.kx.below HB1.out.drew)) ?_
  rintro e w3 ⟨A3, c3, rfl, hR3, hA3, hl3, hm3, hb3⟩
  have hb3' : Below w1.heap.size w1 w3 := below_then (Below.refl _ _).drew hb3
  have HR3 := hid hR3; have HB3 := hid (below_then HB1.out hb3')
  have hx3 := HSS.out w3 HB3.out (hb3'.block _ (by omega)) (by have := hb3'.size; omega)
  have hd3 : w3.heap[w.heap.size]? = w1.heap[w.heap.size]? := hb3'.block _ (by omega)
  have hz3 : w.heap.size + 1 ≤ w3.heap.size := by have := hb3'.size; omega
  refine hK.out _ _ hx3 (fun hHeld => ?_)
  clear hK K hb3 hb3' hR3 hx0
  try simp only [Act.put, List.setIfInBounds_toArray, List.set_cons_succ, List.set_cons_zero]
  refine wpAnyH_take (i := 7) (oi := { dst := some 53, op := Op.move (Operand.tmp 60), type := 43, pos := "law.go:56", after := #[{ on := 6, ground := Ground.data }], guard := none }) (v := ?_) rfl (by kernel_rfl) (by kernel_rfl) (by kernel_rfl) (fun _ _ _ h => h) (Or.inl ⟨by rfl, ?_⟩) hHeld ?_
  rotate_left
  · (intro w hSw; (try dsimp only at hSw); go_simp; try with_reducible rfl)
  try simp only [Act.put, List.setIfInBounds_toArray, List.set_cons_succ, List.set_cons_zero]
  refine wpAnyH_take (i := 8) (oi := { dst := some 61, op := Op.extract (Operand.tmp 53) 0, type := 22, pos := "law.go:56", after := #[{ on := 7, ground := Ground.data }], guard := none }) (v := ?_) rfl (by kernel_rfl) (by kernel_rfl) (by kernel_rfl) (fun _ _ _ h => h) (Or.inl ⟨by rfl, ?_⟩) hHeld ?_
  rotate_left
  · (intro w hSw; (try dsimp only at hSw); go_simp; try with_reducible rfl)
  try simp only [Act.put, List.setIfInBounds_toArray, List.set_cons_succ, List.set_cons_zero]
  refine wpAnyH_take (i := 9) (oi := { dst := some 62, op := Op.extract (Operand.tmp 53) 1, type := 33, pos := "law.go:56", after := #[{ on := 7, ground := Ground.data }, { on := 10, ground := Ground.gcOnly Departure.lateStores }], guard := none }) (v := ?_) rfl (by kernel_rfl) (by kernel_rfl) (by kernel_rfl) (fun _ _ _ h => h) (Or.inl ⟨by rfl, ?_⟩) hHeld ?_
  rotate_left
  · (intro w hSw; (try dsimp only at hSw); go_simp; try with_reducible rfl)
  try simp only [Act.put, List.setIfInBounds_toArray, List.set_cons_succ, List.set_cons_zero]
  refine wpAnyH_ready (rs := [10]) (by kernel_rfl) (by simp) ?_
  refine AllReadyH.cons (o := _) rfl (fun K hK => ?_) AllReadyH.nil
  go_simp
  refine hK.out _ _ (by assumption) (fun hHeld => ?_)
  clear hK K
  try simp only [Act.put, List.setIfInBounds_toArray, List.set_cons_succ, List.set_cons_zero]
  refine wpAnyH_ready (rs := [11]) (by kernel_rfl) (by simp) ?_
  refine AllReadyH.cons (o := _) rfl (fun K hK => ?_) AllReadyH.nil
  go_simp
  refine hK.out _ _ (by assumption) (fun hHeld => ?_)
  clear hK K
  try simp only [Act.put, List.setIfInBounds_toArray, List.set_cons_succ, List.set_cons_zero]
  refine wpAnyH_done (by kernel_rfl) ?_ _
  clear hHeld
  go_wp2_with fail
  refine wp_region_held_drew (S := fun W => W.cell? ⟨p, 0, none⟩ = some (.pointer (some ⟨gx, 0, none⟩)) ∧ W.cell? ⟨p, 1, none⟩ = some (.pointer (some ⟨gy, 0, none⟩)) ∧ W.rangeAt w.heap.size 2 R.toList) (by kernel_rfl) hx3 (fun hHeld => ?_)
  refine wpAnyH_take (i := 0) (oi := { dst := some 64, op := Op.move (Operand.tmp 0), type := 51, pos := "law.go:57", after := #[], guard := none }) (v := ?_) rfl (by kernel_rfl) (by kernel_rfl) (by kernel_rfl) (fun _ _ _ h => h) (Or.inl ⟨by rfl, ?_⟩) hHeld ?_
  rotate_left
  · (intro w hSw; (try dsimp only at hSw); go_simp; try with_reducible rfl)
  try simp only [Act.put, List.setIfInBounds_toArray, List.set_cons_succ, List.set_cons_zero]
  refine wpAnyH_take (i := 1) (oi := { dst := some 65, op := Op.nilCheck (Operand.tmp 64), type := 0, pos := "law.go:57", after := #[{ on := 0, ground := Ground.data }], guard := none }) (v := ?_) rfl (by kernel_rfl) (by kernel_rfl) (by kernel_rfl) (fun _ _ _ h => h) (Or.inl ⟨by rfl, ?_⟩) hHeld ?_
  rotate_left
  · (intro w hSw; (try dsimp only at hSw); go_simp; try with_reducible rfl)
  try simp only [Act.put, List.setIfInBounds_toArray, List.set_cons_succ, List.set_cons_zero]
  refine wpAnyH_take (i := 2) (oi := { dst := some 66, op := Op.fieldAddr 59 (Operand.tmp 65) 1, type := 0, pos := "law.go:57", after := #[{ on := 1, ground := Ground.data }], guard := none }) (v := ?_) rfl (by kernel_rfl) (by kernel_rfl) (by kernel_rfl) (fun _ _ _ h => h) (Or.inl ⟨by rfl, ?_⟩) hHeld ?_
  rotate_left
  · (intro w hSw; (try dsimp only at hSw); go_simp; try with_reducible rfl)
  try simp only [Act.put, List.setIfInBounds_toArray, List.set_cons_succ, List.set_cons_zero]
  refine wpAnyH_take (i := 3) (oi := { dst := some 67, op := Op.load 57 (Operand.tmp 66), type := 57, pos := "law.go:57", after := #[{ on := 2, ground := Ground.data }], guard := none }) (v := ?_) rfl (by kernel_rfl) (by kernel_rfl) (by kernel_rfl) (fun _ _ _ h => h) (Or.inl ⟨by rfl, ?_⟩) hHeld ?_
  rotate_left
  · (intro w hSw; (try dsimp only at hSw); go_simp; try with_reducible rfl)
  try simp only [Act.put, List.setIfInBounds_toArray, List.set_cons_succ, List.set_cons_zero]
  refine wpAnyH_take (i := 4) (oi := { dst := some 68, op := Op.fieldAddr 64 (Operand.tmp 3) 2, type := 0, pos := "law.go:57", after := #[], guard := none }) (v := ?_) rfl (by kernel_rfl) (by kernel_rfl) (by kernel_rfl) (fun _ _ _ h => h) (Or.inl ⟨by rfl, ?_⟩) hHeld ?_
  rotate_left
  · (intro w hSw; (try dsimp only at hSw); go_simp; try with_reducible rfl)
  try simp only [Act.put, List.setIfInBounds_toArray, List.set_cons_succ, List.set_cons_zero]
  refine wpAnyH_take (i := 5) (oi := { dst := some 69, op := Op.load 40 (Operand.tmp 68), type := 40, pos := "law.go:57", after := #[{ on := 4, ground := Ground.data }], guard := none }) (v := .agg R) rfl (by kernel_rfl) (by kernel_rfl) (by kernel_rfl) (fun _ _ _ h => h) (yieldsIf_load_mid (by rfl) 40 (.tmp 68) rfl w.heap.size 2 rfl R.toList _ (fun W hW => hW.2.2) Tryd.underlying40 rfl (by rw [hckz]; kernel_rfl)) hHeld ?_
  try simp only [Act.put, List.setIfInBounds_toArray, List.set_cons_succ, List.set_cons_zero]
  refine wpAnyH_ready (rs := [6]) (by kernel_rfl) (by simp) ?_
  refine AllReadyH.cons (o := _) rfl (fun K hK => ?_) AllReadyH.nil
  go_simp
  go_at_call 48
  refine Calls.mono (hY.out w3.drew (HP.out.ky.below HB3.out.drew)) ?_
  rintro e w5 ⟨A5, c5, rfl, hR5, hA5, hl5, hm5, hb5⟩
  have hb5' : Below w3.heap.size w3 w5 := below_then (Below.refl _ _).drew hb5
  have HR5 := hid hR5; have HB5 := hid (below_then HB3.out hb5')
  have HR53 := hid (HR3.out.below hb5')
  have hx5 := HSS.out w5 HB5.out ((hb5'.block _ (by omega)).trans hd3) (by have := hb5'.size; omega)
  have hz5 : w.heap.size + 1 ≤ w5.heap.size := by have := hb5'.size; omega
  refine hK.out _ _ hx5 (fun hHeld => ?_)
  clear hK K hb5 hb5' hR5 hx3 HB3 HR3 hd3
  try simp only [Act.put, List.setIfInBounds_toArray, List.set_cons_succ, List.set_cons_zero]
  refine wpAnyH_take (i := 7) (oi := { dst := some 63, op := Op.move (Operand.tmp 70), type := 43, pos := "law.go:57", after := #[{ on := 6, ground := Ground.data }], guard := none }) (v := ?_) rfl (by kernel_rfl) (by kernel_rfl) (by kernel_rfl) (fun _ _ _ h => h) (Or.inl ⟨by rfl, ?_⟩) hHeld ?_
  rotate_left
  · (intro w hSw; (try dsimp only at hSw); go_simp; try with_reducible rfl)
  try simp only [Act.put, List.setIfInBounds_toArray, List.set_cons_succ, List.set_cons_zero]
  refine wpAnyH_take (i := 8) (oi := { dst := some 71, op := Op.extract (Operand.tmp 63) 0, type := 22, pos := "law.go:57", after := #[{ on := 7, ground := Ground.data }], guard := none }) (v := ?_) rfl (by kernel_rfl) (by kernel_rfl) (by kernel_rfl) (fun _ _ _ h => h) (Or.inl ⟨by rfl, ?_⟩) hHeld ?_
  rotate_left
  · (intro w hSw; (try dsimp only at hSw); go_simp; try with_reducible rfl)
  try simp only [Act.put, List.setIfInBounds_toArray, List.set_cons_succ, List.set_cons_zero]
  refine wpAnyH_take (i := 9) (oi := { dst := some 72, op := Op.extract (Operand.tmp 63) 1, type := 33, pos := "law.go:57", after := #[{ on := 7, ground := Ground.data }, { on := 10, ground := Ground.gcOnly Departure.lateStores }], guard := none }) (v := ?_) rfl (by kernel_rfl) (by kernel_rfl) (by kernel_rfl) (fun _ _ _ h => h) (Or.inl ⟨by rfl, ?_⟩) hHeld ?_
  rotate_left
  · (intro w hSw; (try dsimp only at hSw); go_simp; try with_reducible rfl)
  try simp only [Act.put, List.setIfInBounds_toArray, List.set_cons_succ, List.set_cons_zero]
  refine wpAnyH_ready (rs := [10]) (by kernel_rfl) (by simp) ?_
  refine AllReadyH.cons (o := _) rfl (fun K hK => ?_) AllReadyH.nil
  go_simp
  refine hK.out _ _ (by assumption) (fun hHeld => ?_)
  clear hK K
  try simp only [Act.put, List.setIfInBounds_toArray, List.set_cons_succ, List.set_cons_zero]
  refine wpAnyH_ready (rs := [11]) (by kernel_rfl) (by simp) ?_
  refine AllReadyH.cons (o := _) rfl (fun K hK => ?_) AllReadyH.nil
  go_simp
  refine hK.out _ _ (by assumption) (fun hHeld => ?_)
  clear hK K
  try simp only [Act.put, List.setIfInBounds_toArray, List.set_cons_succ, List.set_cons_zero]
  refine wpAnyH_done (by kernel_rfl) ?_ _
  clear hHeld hX hY HSS
  have hp5 : w5.heap[p]? = _ := (HB5.out.block p (lt_of_block HK0.out)).trans HK0.out
  have hss : ((strOfNums B).toList == (strOfNums B).toList) = true := beq_self_eq_true _
  rcases hE with rfl | hE
  · have hgs := grown_set w5 p 2 (.slice A5 B.length c5)
    have HZ := hid (hs (i := 2) (v := .slice A5 B.length c5) hp5)
    have hni : NoInt w5 p := noInt_of hp5 (by simp)
    have HR6 := hid (HR5.out.offN hni hgs)
    have HR63 := hid (HR53.out.offN hni hgs)
    have HX6 := hid ((HP.out.kx.below HB5.out).offN hni (Ne.symm HNE.out.1) hgs)
    have HY6 := hid ((HP.out.ky.below HB5.out).offN hni (Ne.symm HNE.out.2.1) hp5 (by decide) hgs)
    have HKP := hid ((Kept3.of_below HB5.out).trans (Kept3.of_grown (p := p) (q := gx) (r := gy) hgs (.inl rfl)))
    have x2 : w5.cell? ⟨p, 2, none⟩ = some (.slice A0' last.length c0') := cellOf hp5 rfl
    have f2 : w5.frozen? ⟨p, 2, none⟩ = false := frozen_of_row w5 p 2 _ _ hp5
    clear hp5 hni hgs HR5 HR53
    go_wp2_with (with_reducible refine hold_op (o := ⟨some 80, _, _, _, _, _⟩) ?_)
    refine hid ?_
    clear x2 f2
    generalize w5.setCell ⟨p, 2, none⟩ (.slice A5 B.length c5) = w6 at *
    have hcA : Sem.run Tryd.prog (convert 22 9 (.slice A3 B.length c3)) w6 = .ok (.string (strOfNums B)) w6 :=
      conv_str (P := Tryd.prog) (w := w6) (dst := 9) Tryd.underlying22 Tryd.underlying5 Tryd.underlying9 B.length c3 rfl HR63.out
    have hcB : Sem.run Tryd.prog (convert 22 9 (.slice A5 B.length c5)) w6 = .ok (.string (strOfNums B)) w6 :=
      conv_str (P := Tryd.prog) (w := w6) (dst := 9) Tryd.underlying22 Tryd.underlying5 Tryd.underlying9 B.length c5 rfl HR6.out
    generalize strOfNums B = S at *
    go_wp2
    go_ret
    exact ⟨rfl, ⟨sec, frm, two, L, B, ⟨⟨A5, c5, HZ.out, HR6.out, hA5⟩, HX6.out, HY6.out, HP.out.lk, HSB.out, hbl2⟩, by omega⟩, HKP.out⟩
  · have hcA : Sem.run Tryd.prog (convert 22 9 (.slice A3 B.length c3)) w5 = .ok (.string (strOfNums B)) w5 :=
      conv_str (P := Tryd.prog) (w := w5) (dst := 9) Tryd.underlying22 Tryd.underlying5 Tryd.underlying9 B.length c3 rfl HR53.out
    have hcB : Sem.run Tryd.prog (convert 22 9 (.slice A5 B.length c5)) w5 = .ok (.string (strOfNums B)) w5 :=
      conv_str (P := Tryd.prog) (w := w5) (dst := 9) Tryd.underlying22 Tryd.underlying5 Tryd.underlying9 B.length c5 rfl HR5.out
    generalize strOfNums B = S at *
    clear hp5
    go_wp2
    go_ret
    exact ⟨rfl, ⟨_, _, _, _, _, HP.out.below HB5.out, by omega⟩, Kept3.of_below HB5.out⟩
end Go.Proofs.YtaieajfgcnaedaaDoor
