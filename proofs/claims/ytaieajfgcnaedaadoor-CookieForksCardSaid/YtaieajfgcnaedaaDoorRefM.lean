/-
  LAYER 6, WALKS: CookieForks.
-/
import Derived.Test.YtaieajfgcnaedaaDoorRefL
set_option linter.unusedVariables false
set_option linter.unusedSimpArgs false
namespace Go.Proofs.YtaieajfgcnaedaaDoor
open Go.RowKit

theorem DCells.mk' (k now at_ by_ back : Int) (bs : List Int) (A : Option Addr) (c : Nat) (a0 a1 a2 a3 a4 a5 a6 a7 a8 a9 a10 a11 a12 : Int) : DCells #[Value.int IntKind.i64 k, Value.slice A bs.length c, Value.int IntKind.i64 a0, Value.int IntKind.i64 a1, Value.int IntKind.u16 a2, Value.int IntKind.u16 a3, Value.int IntKind.u32 a4, Value.int IntKind.u32 a5, Value.int IntKind.u32 a6, Value.int IntKind.u32 a7, Value.int IntKind.u32 a8, Value.int IntKind.u16 a9, Value.int IntKind.u16 a10, Value.int IntKind.u32 a11, Value.int IntKind.u32 a12, Value.int IntKind.i64 now, Value.int IntKind.u8 at_, Value.int IntKind.u8 by_, Value.int IntKind.u8 back] ⟨k, bs, ⟨a0, a1, a2, a3, a4, a5, a6, a7, a8, a9, a10, a11, a12⟩, now, at_, by_, back⟩ A c := by
  refine ⟨rfl, rfl, fun j v hj => ?_, rfl, rfl, rfl, rfl⟩
  simp only [Ck.cells] at hj
  have hjl : j < 13 := by
    have := (List.getElem?_eq_some_iff.1 hj).1
    simpa using this
  rw [List.getElem?_toArray, show 2 + j = j + 2 by omega, List.getElem?_cons_succ, List.getElem?_cons_succ]
  have e1 : [Value.int IntKind.i64 a0, Value.int IntKind.i64 a1, Value.int IntKind.u16 a2, Value.int IntKind.u16 a3, Value.int IntKind.u32 a4, Value.int IntKind.u32 a5, Value.int IntKind.u32 a6, Value.int IntKind.u32 a7, Value.int IntKind.u32 a8, Value.int IntKind.u16 a9, Value.int IntKind.u16 a10, Value.int IntKind.u32 a11, Value.int IntKind.u32 a12, Value.int IntKind.i64 now, Value.int IntKind.u8 at_, Value.int IntKind.u8 by_, Value.int IntKind.u8 back] = [Value.int IntKind.i64 a0, Value.int IntKind.i64 a1, Value.int IntKind.u16 a2, Value.int IntKind.u16 a3, Value.int IntKind.u32 a4, Value.int IntKind.u32 a5, Value.int IntKind.u32 a6, Value.int IntKind.u32 a7, Value.int IntKind.u32 a8, Value.int IntKind.u16 a9, Value.int IntKind.u16 a10, Value.int IntKind.u32 a11, Value.int IntKind.u32 a12] ++ [Value.int IntKind.i64 now, Value.int IntKind.u8 at_, Value.int IntKind.u8 by_, Value.int IntKind.u8 back] := rfl
  rw [e1, List.getElem?_append_left (by simpa using hjl)]
  exact hj
theorem cells_seal : DCells #[Value.int IntKind.i64 1, Value.slice none 0 0, Value.int IntKind.i64 0, Value.int IntKind.i64 0, Value.int IntKind.u16 0, Value.int IntKind.u16 0, Value.int IntKind.u32 0, Value.int IntKind.u32 0, Value.int IntKind.u32 0, Value.int IntKind.u32 0, Value.int IntKind.u32 0, Value.int IntKind.u16 0, Value.int IntKind.u16 0, Value.int IntKind.u32 0, Value.int IntKind.u32 0, Value.int IntKind.i64 0, Value.int IntKind.u8 0, Value.int IntKind.u8 0, Value.int IntKind.u8 0] ⟨1, [], Ck.none, 0, 0, 0, 0⟩ none 0 := DCells.mk' 1 0 0 0 0 [] none 0 0 0 0 0 0 0 0 0 0 0 0 0 0
theorem cells_open : DCells #[Value.int IntKind.i64 3, Value.slice none 0 0, Value.int IntKind.i64 0, Value.int IntKind.i64 0, Value.int IntKind.u16 0, Value.int IntKind.u16 0, Value.int IntKind.u32 0, Value.int IntKind.u32 0, Value.int IntKind.u32 0, Value.int IntKind.u32 0, Value.int IntKind.u32 0, Value.int IntKind.u16 0, Value.int IntKind.u16 0, Value.int IntKind.u32 0, Value.int IntKind.u32 0, Value.int IntKind.i64 0, Value.int IntKind.u8 0, Value.int IntKind.u8 0, Value.int IntKind.u8 0] ⟨3, [], Ck.none, 0, 0, 0, 0⟩ none 0 := DCells.mk' 3 0 0 0 0 [] none 0 0 0 0 0 0 0 0 0 0 0 0 0 0
theorem none_ok : Ck.none.Ok := by constructor <;> exact ⟨by decide, by decide⟩
theorem none_may : Ck.none.may := by decide
theorem nil_ok (k : Int) (w : World) : DOk w ⟨k, [], Ck.none, 0, 0, 0, 0⟩ none 0 := ⟨Rd.nil _ _ _, fun _ => rfl, Bytes.nil, Nat.le_refl _, by omega, none_ok, by simp, by simp, by simp⟩
/-- Nothing of the pair in block p lies in block q. -/
structure PQ (q : Nat) (w : World) (p gx gy : Nat) : Prop where
  x : KQ q w gx
  y : RQ q w gy
  l : ∃ A n c a b, w.heap[p]? = some (.cells #[a, b, .slice A n c] 59 (0, 0)) ∧ (n ≠ 0 → ∀ b o, A = some ⟨b, o, none⟩ → b ≠ q)
  np : q ≠ p
  nx : q ≠ gx
  ny : q ≠ gy
theorem PSt.q {w : World} {p gx gy : Nat} {sec frm : List Int} {two : Bool} {L : List (List Int)} {last : List Int} (h : PSt w p gx gy sec frm two L last) {q : Nat} (hq : w.heap.size ≤ q) : PQ q w p gx gy := by
  obtain ⟨A, c, h1, h2, _⟩ := h.blk
  have hx := h.kx.lt
  have hy := h.ky.lt
  have hp := h.lt
  exact ⟨h.kx.q hq, h.ky.q hq, ⟨A, _, c, _, _, h1, h2.ne_of_size hq⟩, by omega, by omega, by omega⟩
theorem PQ.below {q : Nat} {w w' : World} {p gx gy : Nat} (h : PQ q w p gx gy) (hb : Below w.heap.size w w') : PQ q w' p gx gy := by
  obtain ⟨A, n, c, a, b, h1, h2⟩ := h.l
  exact ⟨h.x.below hb, h.y.below hb, ⟨A, n, c, a, b, (hb.block _ (lt_of_block h1)).trans h1, h2⟩, h.np, h.nx, h.ny⟩
theorem PSt.write {w w' : World} {p gx gy : Nat} {sec frm : List Int} {two : Bool} {L : List (List Int)} {last : List Int} (h : PSt w p gx gy sec frm two L last) {q : Nat} (hq : PQ q w p gx gy) {cs : Array Value} {t : TypeId} {fr : Nat × Nat} (hb : w.heap[q]? = some (.cells cs t fr)) (ht : t ≠ 22) (hw : w.grownBy w' (some q)) : PSt w' p gx gy sec frm two L last ∧ PQ q w' p gx gy := by
  obtain ⟨A, c, h1, h2, h3⟩ := h.blk
  obtain ⟨A', n', c', a', b', k1, k2⟩ := hq.l
  have hp : w'.heap[p]? = _ := (hw.block p (lt_of_block h1) (fun e => hq.np (Option.some.inj e).symm)).trans h1
  rw [h1] at k1
  simp only [Option.some.injEq, Obj.cells.injEq, Array.mk.injEq, List.cons.injEq, Value.slice.injEq] at k1
  obtain ⟨⟨_, _, ⟨rfl, rfl, rfl⟩, _⟩, _⟩ := k1
  obtain ⟨r1, r2⟩ := h.kx.write hq.x (Ne.symm hq.nx) hw
  obtain ⟨r3, r4⟩ := h.ky.write hq.y (Ne.symm hq.ny) hb ht hw
  exact ⟨⟨⟨A, c, hp, h2.write k2 hw, h3⟩, r1, r3, h.lk, h.bl, h.ll⟩, ⟨r2, r4, ⟨A, _, c, _, _, hp, k2⟩, hq.np, hq.nx, hq.ny⟩⟩
theorem OwnV.kept3 {w w' : World} {base : Nat} {e : TypeId} {v : Value} {xs : List Value} (h : OwnV w base e v xs) {a b c : Nat} (hk : Kept3 a b c w w') (ha : ∀ cs fr, w.heap[a]? ≠ some (.cells cs e fr)) (hb : ∀ cs fr, w.heap[b]? ≠ some (.cells cs e fr)) (hc : ∀ cs fr, w.heap[c]? ≠ some (.cells cs e fr)) : OwnV w' base e v xs := by
  refine ⟨h.1, ?_⟩
  rcases h.2 with h0 | ⟨g, cap, cur, rfl, h1, hh, r⟩
  · exact .inl h0
  · exact .inr ⟨g, cap, cur, rfl, h1, (hk.block g (lt_of_block hh) (fun e => ha _ _ (e ▸ hh)) (fun e => hb _ _ (e ▸ hh)) (fun e => hc _ _ (e ▸ hh))).trans hh, r⟩
theorem Sls.kept3 {a b c : Nat} {w w' : World} (hk : Kept3 a b c w w') (hn : NoInt w a ∧ NoInt w b ∧ NoInt w c) : ∀ {vs : List Value} {L : List (List Int)}, Sls w vs L → Sls w' vs L
  | [], [], _ => trivial
  | _ :: _, _ :: _, h => ⟨by obtain ⟨A, c, h1, h2, h3, h4, h5⟩ := h.1; exact ⟨A, c, h1, h2.kept3 hk hn, h3, h4, h5⟩, Sls.kept3 hk hn h.2⟩
theorem typ_no {w : World} {a : Nat} {cs : Array Value} {t e : TypeId} {fr : Nat × Nat} (h : w.heap[a]? = some (.cells cs t fr)) (hne : t ≠ e) : ∀ ds gr, w.heap[a]? ≠ some (.cells ds e gr) := fun ds gr k => by
  rw [h] at k
  simp only [Option.some.injEq, Obj.cells.injEq] at k
  exact hne k.2.1
/-- What another pair does leaves a pair. -/
theorem PSt.kept3 {w w' : World} {p gx gy : Nat} {sec frm : List Int} {two : Bool} {L : List (List Int)} {last : List Int} (h : PSt w p gx gy sec frm two L last) {a b c : Nat} {sec' frm' : List Int} {two' : Bool} {L' : List (List Int)} {last' : List Int} (k : PSt w a b c sec' frm' two' L' last') (hk : Kept3 a b c w w')
    (hne : p ≠ a ∧ gx ≠ b ∧ gy ≠ c) : PSt w' p gx gy sec frm two L last := by
  have hn := k.noInt
  obtain ⟨Aa, ca, ka, _⟩ := k.blk
  obtain ⟨cb, kb⟩ := k.kx.typ
  obtain ⟨cc, kc⟩ := k.ky.typ
  obtain ⟨A, n, h1, h2, h3⟩ := h.blk
  obtain ⟨xb, xt⟩ := h.kx.typ
  obtain ⟨yb, yt⟩ := h.ky.typ
  have hp : w'.heap[p]? = _ := (hk.block p (lt_of_block h1) hne.1 (typ_ne h1 kb (by decide)) (typ_ne h1 kc (by decide))).trans h1
  have hx : w'.heap[gx]? = w.heap[gx]? := hk.block gx (lt_of_block xt) (typ_ne xt ka (by decide)) hne.2.1 (typ_ne xt kc (by decide))
  have hy : w'.heap[gy]? = w.heap[gy]? := hk.block gy (lt_of_block yt) (typ_ne yt ka (by decide)) (typ_ne yt kb (by decide)) hne.2.2
  obtain ⟨A1, n1, c1, A2, n2, c2, k1, k2, k3, k4, k5, k6, k7⟩ := h.kx.ex
  obtain ⟨v, row, base, r1, r2, r3⟩ := h.ky.ex
  exact ⟨⟨A, n, hp, h2.kept3 hk hn, h3⟩, ⟨⟨A1, n1, c1, A2, n2, c2, hx.trans k1, k2, k3, k4.kept3 hk hn, k5.kept3 hk hn, k6, k7⟩, h.kx.bs, h.kx.bf, h.kx.ls, h.kx.lf⟩,
    ⟨⟨v, row, base, hy.trans r1, r2.kept3 hk (typ_no ka (by decide)) (typ_no kb (by decide)) (typ_no kc (by decide)), r3.kept3 hk hn⟩⟩, h.lk, h.bl, h.ll⟩
set_option maxHeartbeats 12800000 in
set_option maxRecDepth 100000 in
theorem CookieForks_calls (c n cd la ce lb : Nat) (A Ad Ae : Option Addr) (xs : List Int) (hn : xs.length = n) (w : World) (hT : Tab w) (hR : Rd w .u8 A xs) (hA : A = none → c = 0) (hb : Bytes xs) (hl : n ≤ 140737488351232) (hD : RdDd w Ad la) (hcd : la ≤ cd) (hcm : cd ≤ 9223372036854775807) (hE : RdDd w Ae lb) (hce : lb ≤ ce) (hcn : ce ≤ 9223372036854775807) :
    Calls Tryd.prog 12 #[.slice A n c, .slice Ad la cd, .slice Ae lb ce] w fun e w' => e = .returned (.bool true) ∧ Below w.heap.size w w' := by
  have HT := hid hT
  have HC := hid (play_calls c n cd la A Ad xs hn w hT hR hA hb hl hD hcd hcm)
  have HE := hid hE
  clear hT hn hR hA hb hD hE
  go_enter Tryd.func12, Tryd.ntmps12
  go_wp2_with (go_at_call 28; refine hold ?_)
  refine hid ?_
  refine Calls.mono HC.out ?_
  rintro e w1 ⟨p, gx, gy, sec, frm, two, L, last, rfl, hp0, hx0, hy0, hP, hL, hb1⟩
  have HB1 := hid hb1; have HP := hid hP; have HL := hid hL
  have hplt := hP.lt
  have hxlt := hP.kx.lt
  have hylt := hP.ky.lt
  obtain ⟨A0, c0, k0, _, hA0⟩ := hP.blk
  have HK0 := hid k0
  have hS : ∀ W, Below w1.heap.size w1 W → W.cell? ⟨p, 0, none⟩ = some (.pointer (some ⟨gx, 0, none⟩)) ∧ W.cell? ⟨p, 1, none⟩ = some (.pointer (some ⟨gy, 0, none⟩)) ∧ W.cell? ⟨p, 2, none⟩ = some (.slice A0 last.length c0) := fun W h => by
    have hp : W.heap[p]? = _ := (h.block p hplt).trans k0
    exact ⟨cellOf hp rfl, cellOf hp rfl, cellOf hp rfl⟩
  have HSS := hid hS
  have hs0 := hS _ (Below.refl _ _)
  clear hb1 hP hL k0 HC hS
  go_wp2_with fail
  refine wp_region_held_drew (S := fun W => W.cell? ⟨p, 0, none⟩ = some (.pointer (some ⟨gx, 0, none⟩)) ∧ W.cell? ⟨p, 1, none⟩ = some (.pointer (some ⟨gy, 0, none⟩)) ∧ W.cell? ⟨p, 2, none⟩ = some (.slice A0 last.length c0)) (by kernel_rfl) hs0 (fun hHeld => ?_)
  clear hs0
  refine wpAnyH_take (i := 0) (oi := { dst := some 22, op := Op.move (Operand.tmp 7), type := 51, pos := "law.go:153", after := #[], guard := none }) (v := ?_) rfl (by kernel_rfl) (by kernel_rfl) (by kernel_rfl) (fun _ _ _ h => h) (Or.inl ⟨by rfl, ?_⟩) hHeld ?_
  rotate_left
  · (intro w hSw; (try dsimp only at hSw); go_simp; try with_reducible rfl)
  try simp only [Act.put, List.setIfInBounds_toArray, List.set_cons_succ, List.set_cons_zero]
  refine wpAnyH_take (i := 1) (oi := { dst := some 23, op := Op.nilCheck (Operand.tmp 22), type := 0, pos := "law.go:153", after := #[{ on := 0, ground := Ground.data }], guard := none }) (v := ?_) rfl (by kernel_rfl) (by kernel_rfl) (by kernel_rfl) (fun _ _ _ h => h) (Or.inl ⟨by rfl, ?_⟩) hHeld ?_
  rotate_left
  · (intro w hSw; (try dsimp only at hSw); go_simp; try with_reducible rfl)
  try simp only [Act.put, List.setIfInBounds_toArray, List.set_cons_succ, List.set_cons_zero]
  refine wpAnyH_take (i := 2) (oi := { dst := some 24, op := Op.fieldAddr 59 (Operand.tmp 23) 0, type := 0, pos := "law.go:153", after := #[{ on := 1, ground := Ground.data }], guard := none }) (v := ?_) rfl (by kernel_rfl) (by kernel_rfl) (by kernel_rfl) (fun _ _ _ h => h) (Or.inl ⟨by rfl, ?_⟩) hHeld ?_
  rotate_left
  · (intro w hSw; (try dsimp only at hSw); go_simp; try with_reducible rfl)
  try simp only [Act.put, List.setIfInBounds_toArray, List.set_cons_succ, List.set_cons_zero]
  refine wpAnyH_take (i := 3) (oi := { dst := some 25, op := Op.load 41 (Operand.tmp 24), type := 41, pos := "law.go:153", after := #[{ on := 2, ground := Ground.data }], guard := none }) (v := ?_) rfl (by kernel_rfl) (by kernel_rfl) (by kernel_rfl) (fun _ _ _ h => h) (Or.inl ⟨by rfl, ?_⟩) hHeld ?_
  rotate_left
  · (intro w hSw; (try dsimp only at hSw); go_simp; try with_reducible rfl)
  try simp only [Act.put, List.setIfInBounds_toArray, List.set_cons_succ, List.set_cons_zero]
  refine wpAnyH_take (i := 5) (oi := { dst := some 27, op := Op.move (Operand.tmp 7), type := 51, pos := "law.go:153", after := #[], guard := none }) (v := ?_) rfl (by kernel_rfl) (by kernel_rfl) (by kernel_rfl) (fun _ _ _ h => h) (Or.inl ⟨by rfl, ?_⟩) hHeld ?_
  rotate_left
  · (intro w hSw; (try dsimp only at hSw); go_simp; try with_reducible rfl)
  try simp only [Act.put, List.setIfInBounds_toArray, List.set_cons_succ, List.set_cons_zero]
  refine wpAnyH_take (i := 6) (oi := { dst := some 28, op := Op.nilCheck (Operand.tmp 27), type := 0, pos := "law.go:153", after := #[{ on := 5, ground := Ground.data }], guard := none }) (v := ?_) rfl (by kernel_rfl) (by kernel_rfl) (by kernel_rfl) (fun _ _ _ h => h) (Or.inl ⟨by rfl, ?_⟩) hHeld ?_
  rotate_left
  · (intro w hSw; (try dsimp only at hSw); go_simp; try with_reducible rfl)
  try simp only [Act.put, List.setIfInBounds_toArray, List.set_cons_succ, List.set_cons_zero]
  refine wpAnyH_take (i := 7) (oi := { dst := some 29, op := Op.fieldAddr 59 (Operand.tmp 28) 1, type := 0, pos := "law.go:153", after := #[{ on := 6, ground := Ground.data }], guard := none }) (v := ?_) rfl (by kernel_rfl) (by kernel_rfl) (by kernel_rfl) (fun _ _ _ h => h) (Or.inl ⟨by rfl, ?_⟩) hHeld ?_
  rotate_left
  · (intro w hSw; (try dsimp only at hSw); go_simp; try with_reducible rfl)
  try simp only [Act.put, List.setIfInBounds_toArray, List.set_cons_succ, List.set_cons_zero]
  refine wpAnyH_take (i := 8) (oi := { dst := some 30, op := Op.load 57 (Operand.tmp 29), type := 57, pos := "law.go:153", after := #[{ on := 7, ground := Ground.data }], guard := none }) (v := ?_) rfl (by kernel_rfl) (by kernel_rfl) (by kernel_rfl) (fun _ _ _ h => h) (Or.inl ⟨by rfl, ?_⟩) hHeld ?_
  rotate_left
  · (intro w hSw; (try dsimp only at hSw); go_simp; try with_reducible rfl)
  try simp only [Act.put, List.setIfInBounds_toArray, List.set_cons_succ, List.set_cons_zero]
  refine wpAnyH_take (i := 10) (oi := { dst := some 32, op := Op.move (Operand.tmp 7), type := 51, pos := "law.go:153", after := #[], guard := none }) (v := ?_) rfl (by kernel_rfl) (by kernel_rfl) (by kernel_rfl) (fun _ _ _ h => h) (Or.inl ⟨by rfl, ?_⟩) hHeld ?_
  rotate_left
  · (intro w hSw; (try dsimp only at hSw); go_simp; try with_reducible rfl)
  try simp only [Act.put, List.setIfInBounds_toArray, List.set_cons_succ, List.set_cons_zero]
  refine wpAnyH_take (i := 11) (oi := { dst := some 33, op := Op.nilCheck (Operand.tmp 32), type := 0, pos := "law.go:153", after := #[{ on := 10, ground := Ground.data }], guard := none }) (v := ?_) rfl (by kernel_rfl) (by kernel_rfl) (by kernel_rfl) (fun _ _ _ h => h) (Or.inl ⟨by rfl, ?_⟩) hHeld ?_
  rotate_left
  · (intro w hSw; (try dsimp only at hSw); go_simp; try with_reducible rfl)
  try simp only [Act.put, List.setIfInBounds_toArray, List.set_cons_succ, List.set_cons_zero]
  refine wpAnyH_take (i := 12) (oi := { dst := some 34, op := Op.fieldAddr 59 (Operand.tmp 33) 2, type := 0, pos := "law.go:153", after := #[{ on := 11, ground := Ground.data }], guard := none }) (v := ?_) rfl (by kernel_rfl) (by kernel_rfl) (by kernel_rfl) (fun _ _ _ h => h) (Or.inl ⟨by rfl, ?_⟩) hHeld ?_
  rotate_left
  · (intro w hSw; (try dsimp only at hSw); go_simp; try with_reducible rfl)
  try simp only [Act.put, List.setIfInBounds_toArray, List.set_cons_succ, List.set_cons_zero]
  refine wpAnyH_take (i := 13) (oi := { dst := some 35, op := Op.load 22 (Operand.tmp 34), type := 22, pos := "law.go:153", after := #[{ on := 12, ground := Ground.data }], guard := none }) (v := ?_) rfl (by kernel_rfl) (by kernel_rfl) (by kernel_rfl) (fun _ _ _ h => h) (Or.inl ⟨by rfl, ?_⟩) hHeld ?_
  rotate_left
  · (intro w hSw; (try dsimp only at hSw); go_simp; try with_reducible rfl)
  try simp only [Act.put, List.setIfInBounds_toArray, List.set_cons_succ, List.set_cons_zero]
  refine wpAnyH_ready (rs := [4]) (by kernel_rfl) (by simp) ?_
  refine AllReadyH.cons (o := _) rfl (fun K hK => ?_) AllReadyH.nil
  go_simp
  go_at_call 30
  refine Calls.mono (cfork_calls gx sec frm two w1.drew (HP.out.kx.below (Below.refl _ _).drew)) ?_
  rintro e w3 ⟨gx2, rfl, hgx2, hK3, hb3⟩
  have hb3' : Below w1.heap.size w1 w3 := below_then (Below.refl _ _).drew hb3
  have hgx2' : w1.heap.size ≤ gx2 := hgx2
  have HK3 := hid hK3; have HB3 := hid hb3'
  refine hK.out _ _ (HSS.out w3 hb3') (fun hHeld => ?_)
  clear hK K hK3 hb3 hgx2
  try simp only [Act.put, List.setIfInBounds_toArray, List.set_cons_succ, List.set_cons_zero]
  refine wpAnyH_ready (rs := [9]) (by kernel_rfl) (by simp) ?_
  refine AllReadyH.cons (o := _) rfl (fun K hK => ?_) AllReadyH.nil
  go_simp
  go_at_call 31
  refine Calls.mono (rkfork_calls gy L w3 (HP.out.ky.below HB3.out)) ?_
  rintro e w4 ⟨gy2, rfl, hgy2, hY4, hb4⟩
  have hgy2' : w1.heap.size ≤ gy2 := by have := hb3'.size; omega
  have HY4 := hid hY4; have HB4 := hid (below_then HB3.out hb4); have HK4 := hid (HK3.out.below hb4)
  refine hK.out _ _ (HSS.out w4 HB4.out) (fun hHeld => ?_)
  clear hK K hY4 hb4 hgy2 hb3' HK3 HB3
  try simp only [Act.put, List.setIfInBounds_toArray, List.set_cons_succ, List.set_cons_zero]
  refine wpAnyH_take (i := 14) (oi := { dst := some 36, op := Op.build 59 #[(0, Operand.tmp 26), (1, Operand.tmp 31), (2, Operand.tmp 35)], type := 59, pos := "law.go:153", after := #[{ on := 4, ground := Ground.data }, { on := 9, ground := Ground.data }, { on := 13, ground := Ground.data }], guard := none }) (v := ?_) rfl (by kernel_rfl) (by kernel_rfl) (by kernel_rfl) (fun _ _ _ h => h) (Or.inl ⟨by rfl, ?_⟩) hHeld ?_
  rotate_left
  · (intro w hSw; (try dsimp only at hSw); go_simp; try with_reducible rfl)
  try simp only [Act.put, List.setIfInBounds_toArray, List.set_cons_succ, List.set_cons_zero]
  refine wpAnyH_ready (rs := [15]) (by kernel_rfl) (by simp) ?_
  refine AllReadyH.cons (o := _) rfl (fun K hK => ?_) AllReadyH.nil
  go_simp
  have hg5 : (w4.alloc (.cells #[.pointer (some ⟨gx2, 0, none⟩), .pointer (some ⟨gy2, 0, none⟩), .slice A0 last.length c0] 59)).heap[w4.heap.size]? = some (.cells #[.pointer (some ⟨gx2, 0, none⟩), .pointer (some ⟨gy2, 0, none⟩), .slice A0 last.length c0] 59 (0, 0)) := heap_alloc_new _ _
  have hb5 : Below w4.heap.size w4 (w4.alloc (.cells #[.pointer (some ⟨gx2, 0, none⟩), .pointer (some ⟨gy2, 0, none⟩), .slice A0 last.length c0] 59)) := (Below.refl _ _).alloc (Nat.le_refl _) _
  have hb15 := below_then HB4.out hb5
  have HQ0 := hid (show PSt (w4.alloc (.cells #[.pointer (some ⟨gx2, 0, none⟩), .pointer (some ⟨gy2, 0, none⟩), .slice A0 last.length c0] 59)) w4.heap.size gx2 gy2 sec frm two L last from ⟨⟨A0, c0, hg5, (by obtain ⟨A9, c9, r1, r2, _⟩ := (HP.out.below hb15).blk; rw [((hb15.block p hplt).trans HK0.out)] at r1; simp only [Option.some.injEq, Obj.cells.injEq, Array.mk.injEq, List.cons.injEq, Value.slice.injEq] at r1; obtain ⟨⟨_, _, ⟨rfl, _⟩, _⟩, _⟩ := r1; exact r2), hA0⟩, HK4.out.below hb5, HY4.out.below hb5, HP.out.lk, HP.out.bl, HP.out.ll⟩)
  have HP0 := hid (HP.out.below hb15)
  have HB5 := hid (below_then HB1.out hb15)
  have hpq : w1.heap.size ≤ w4.heap.size := HB4.out.size
  refine hK.out _ _ (HSS.out _ hb15) (fun hHeld => ?_)
  clear hK K hg5 hb5 hb15 HK4 HY4 HB4
  generalize w4.alloc (.cells #[.pointer (some ⟨gx2, 0, none⟩), .pointer (some ⟨gy2, 0, none⟩), .slice A0 last.length c0] 59) = w5 at *
  generalize w4.heap.size = pq at *
  try simp only [Act.put, List.setIfInBounds_toArray, List.set_cons_succ, List.set_cons_zero]
  refine wpAnyH_ready (rs := [16]) (by kernel_rfl) (by simp) ?_
  refine AllReadyH.cons (o := _) rfl (fun K hK => ?_) AllReadyH.nil
  go_simp
  refine hK.out _ _ (by assumption) (fun hHeld => ?_)
  clear hK K
  try simp only [Act.put, List.setIfInBounds_toArray, List.set_cons_succ, List.set_cons_zero]
  refine wpAnyH_done (by kernel_rfl) ?_ _
  clear hHeld HSS
  have hw1 := HB1.out.size
  go_wp2_with fail
  go_loopw [10] (fun i w' => ∃ j : Nat, j ≤ lb ∧ j ≤ 40 ∧ i = .int .i64 j ∧ (∃ sec' frm' two' L' last', PSt w' pq gx2 gy2 sec' frm' two' L' last' ∧ L'.length ≤ 41 + j) ∧ PSt w' p gx gy sec frm two L last ∧ Below w.heap.size w w') (fun i _ => 40 - (intOf i).toNat)
  case atStart => exact ⟨0, by omega, by omega, rfl, ⟨_, _, _, _, _, HQ0.out, by have := HL.out; omega⟩, HP0.out, HB5.out⟩
  case round =>
    obtain ⟨j, hj, hj4, rfl, ⟨sec', frm', two', L', last', hQ, hL'⟩, hP', hbl⟩ := hrel
    have HQ := hid hQ; have HL' := hid hL'; have HBL := hid hbl; have HPP := hid hP'
    clear hQ hL' hbl hP' HQ0 HP0 HB5
    have hj0 : (0 : Int) ≤ (j : Int) := by omega
    by_cases hlt : j < lb ∧ j < 40
    · obtain ⟨hlt, hlt4⟩ := hlt
      have hj1 : (j : Int) < (lb : Int) := by omega
      have hj5 : (j : Int) < 40 := by omega
      obtain ⟨b, ob, cs, d, Aj, cj, rfl, hbb, hcs, hrg, hdc, hdo⟩ := (HE.out.below HBL.out) j hlt
      have HCS := hid hcs; have HRG := hid hrg; have HDC := hid hdc; have HDO := hid hdo
      clear hcs hrg hdc hdo hbb
      go_wp2_with (with_reducible refine hold_op (o := ⟨some 52, _, _, _, _, _⟩) ?_)
      refine hid ?_
      refine wpList_load_mid rfl 64 (.tmp 51) rfl b (ob + j * 19) rfl cs _ HRG.out Tryd.underlying64 rfl (by rw [HCS.out]; kernel_rfl) ?_
      simp only [Act.put, List.setIfInBounds_toArray, List.set_cons_succ, List.set_cons_zero]
      generalize cs.toArray = CA at *
      go_wp2_with (go_at_call 32; refine hold ?_)
      refine hid ?_
      refine Calls.mono (pdo_calls pq gx2 gy2 d CA Aj cj HDC.out sec' frm' two' L' last' wr (HT.out.below HBL.out) HQ.out (by have := HL'.out; omega) HDO.out) ?_
      rintro e w6 ⟨rfl, ⟨sec'', frm'', two'', L'', last'', hQ', hL''⟩, hk⟩
      have HQ' := hid hQ'; have HL'' := hid hL''
      have HB6 := hid (hk.below HBL.out (by omega) (by omega) (by omega))
      have HP6 := hid (HPP.out.kept3 HQ.out hk ⟨by omega, by omega, by omega⟩)
      clear hQ' hL'' hk
      go_wp2
      go_roundw
      case rel => exact ⟨j + 1, by omega, by omega, by go_num, ⟨_, _, _, _, _, HQ'.out, by have := HL''.out; have := HL'.out; omega⟩, HP6.out, HB6.out⟩
      case measure => simp [intOf]; omega
    · have hdd : ¬ ((j : Int) < (lb : Int) ∧ (j : Int) < 40) := by omega
      obtain ⟨wo, rfl⟩ : ∃ wo : World, wo = wr := ⟨_, rfl⟩
      have x0 : wo.cell? ⟨p, 0, none⟩ = some (.pointer (some ⟨gx, 0, none⟩)) := by
        obtain ⟨_, _, k, _⟩ := HPP.out.blk
        exact cellOf k rfl
      have HPW := hid (HPP.out.q (Nat.le_refl _))
      clear HQ HL'
      have hcase : (¬ (j : Int) < (lb : Int)) ∨ ((j : Int) < (lb : Int) ∧ ¬ (j : Int) < 40) := by omega
      clear hdd hlt
      rcases hcase with h1 | ⟨h1, h2⟩
      · go_wp2_with (go_at_call 24; refine hold ?_)
        refine hid ?_
        refine Calls.mono (seal_calls gx Ck.none none_may none_ok sec frm two wo (HT.out.below HBL.out) HPP.out.kx) ?_
        rintro e w7 ⟨v, rfl, ho, hb7⟩
        obtain ⟨A7, c7, rfl, hA7, hR7, hz7⟩ := ho.rd (by rw [Ck.seal_len]; omega)
        have hlS := Ck.seal_len sec Ck.none
        have HBS := hid (Ck.seal_bytes sec Ck.none)
        rw [hlS] at ho ⊢
        generalize Ck.none.seal sec = SB at *
        obtain ⟨q, oq, rfl, hql⟩ := hR7.form 0 (by omega)
        obtain ⟨hq1, rfl⟩ := hz7 q oq rfl
        have HO7 := hid ho; have HB7 := hid (below_then HBL.out hb7); have HP7 := hid (HPP.out.below hb7)
        have HQ7 := hid ((HPP.out.q hq1).below hb7)
        have HLS := hid hlS
        have hwq : w.heap.size ≤ q := by have := HBL.out.size; omega
        clear ho hb7 hA7 hR7 hz7 hlS x0 hq1 hql
        go_wp2_with fail
        go_loopw [13] (fun i w' => ∃ (k : Nat) (ys : List Int), k ≤ 84 ∧ i = .int .i64 k ∧ ys.length = 84 ∧ Bytes ys ∧ Own w' wo.heap.size 5 .u8 (.slice (some ⟨q, 0, none⟩) 84 c7) ys ∧ PSt w' p gx gy sec frm two L last ∧ PQ q w' p gx gy ∧ Below w.heap.size w w') (fun i _ => 84 - (intOf i).toNat)
        case atStart => exact ⟨0, SB, by omega, rfl, HLS.out, HBS.out, HO7.out, HP7.out, HQ7.out, HB7.out⟩
        case round =>
          obtain ⟨k, ys, hk, rfl, hyl, hyb, hyo, hpp, hqq, hbb⟩ := hrel
          have HYL := hid hyl; have HYB := hid hyb; have HYO := hid hyo; have HPK := hid hpp; have HQK := hid hqq; have HBK := hid hbb
          clear hyl hyb hyo hpp hqq hbb HO7 HP7 HQ7 HB7
          have hk0 : (0 : Int) ≤ (k : Int) := by omega
          by_cases hkl : k < 84
          · have hk1 : (k : Int) < 84 := by omega
            have hjl : k < ys.length := by rw [HYL.out]; exact hkl
            have cx := HYO.out.cell k hjl
            have fx := HYO.out.free k
            have hx16 : bits .xor .u8 (ys.getD k 0) 9 = xorI (ys.getD k 0) 9 := xorI_eq _ 9 (HYB.out.at_ k).1
            have hst := HYO.out.set k hjl (xorI (ys.getD k 0) 9)
            have hgs := grown_set wr q k (.int .u8 (xorI (ys.getD k 0) 9))
            obtain ⟨ow, hw⟩ : ∃ cs, wr.heap[q]? = some (.cells cs 5 (0, 0)) := by
              rcases HYO.out.2 with ⟨e, _⟩ | ⟨g', cap', cur', e, _, hh, _⟩
              · cases e
              · simp only [Value.slice.injEq, Option.some.injEq, Addr.mk.injEq] at e
                obtain ⟨⟨rfl, _⟩, _⟩ := e
                exact ⟨_, hh⟩
            obtain ⟨r1, r2⟩ := HPK.out.write HQK.out hw (by decide) hgs
            have hbn := HBK.out.setCell (p := ⟨q, k, none⟩) hwq (.int .u8 (xorI (ys.getD k 0) 9))
            have HST := hid hst; have HPN := hid r1; have HQN := hid r2; have HBN := hid hbn
            clear hst hgs hw r1 r2 hbn
            generalize ys.getD k 0 = x at *
            go_wp2
            go_roundw
            case rel => exact ⟨k + 1, _, by omega, by go_num, by rw [List.length_set]; exact HYL.out, bytes_set HYB.out k (xor_byte _ _), HST.out, HPN.out, HQN.out, HBN.out⟩
            case measure => simp [intOf]; omega
          · obtain rfl : k = 84 := by omega
            clear HYL HYB HYO HQK hkl
            go_wp2_with (go_at_call 25; refine hold ?_)
            refine hid ?_
            refine Calls.mono (clive_calls wr (HT.out.below HBK.out)) ?_
            rintro e w8 ⟨rfl, hb8⟩
            have HB8 := hid (below_then HBK.out hb8); have HP8 := hid (HPK.out.below hb8)
            clear hb8 HBK HPK
            go_wp2_with (go_at_call 32; refine hold ?_)
            refine hid ?_
            refine Calls.mono (pdo_calls p gx gy _ _ none 0 cells_seal sec frm two L last w8 (HT.out.below HB8.out) HP8.out (by have := HL.out; omega) (nil_ok 1 w8)) ?_
            rintro e w9 ⟨rfl, ⟨sec', frm', two', L', last', hP9, hL9⟩, hk9⟩
            have HB9 := hid (hk9.below HB8.out hp0 hx0 hy0); have HP9 := hid hP9
            have HL9 := hid hL9
            clear hk9 hP9 hL9 HP8
            go_wp2_with (go_at_call 32; refine hold ?_)
            refine hid ?_
            refine Calls.mono (pdo_calls p gx gy _ _ none 0 cells_open sec' frm' two' L' last' w9 (HT.out.below HB9.out) HP9.out (by have := HL9.out; have := HL.out; omega) (nil_ok 3 w9)) ?_
            rintro e w10 ⟨rfl, _, hk10⟩
            have HB10 := hid (hk10.below HB9.out hp0 hx0 hy0)
            clear hk10
            go_wp2
            go_ret
            exact ⟨rfl, HB10.out⟩

      · go_wp2_with (go_at_call 24; refine hold ?_)
        refine hid ?_
        refine Calls.mono (seal_calls gx Ck.none none_may none_ok sec frm two wo (HT.out.below HBL.out) HPP.out.kx) ?_
        rintro e w7 ⟨v, rfl, ho, hb7⟩
        obtain ⟨A7, c7, rfl, hA7, hR7, hz7⟩ := ho.rd (by rw [Ck.seal_len]; omega)
        have hlS := Ck.seal_len sec Ck.none
        have HBS := hid (Ck.seal_bytes sec Ck.none)
        rw [hlS] at ho ⊢
        generalize Ck.none.seal sec = SB at *
        obtain ⟨q, oq, rfl, hql⟩ := hR7.form 0 (by omega)
        obtain ⟨hq1, rfl⟩ := hz7 q oq rfl
        have HO7 := hid ho; have HB7 := hid (below_then HBL.out hb7); have HP7 := hid (HPP.out.below hb7)
        have HQ7 := hid ((HPP.out.q hq1).below hb7)
        have HLS := hid hlS
        have hwq : w.heap.size ≤ q := by have := HBL.out.size; omega
        clear ho hb7 hA7 hR7 hz7 hlS x0 hq1 hql
        go_wp2_with fail
        go_loopw [13] (fun i w' => ∃ (k : Nat) (ys : List Int), k ≤ 84 ∧ i = .int .i64 k ∧ ys.length = 84 ∧ Bytes ys ∧ Own w' wo.heap.size 5 .u8 (.slice (some ⟨q, 0, none⟩) 84 c7) ys ∧ PSt w' p gx gy sec frm two L last ∧ PQ q w' p gx gy ∧ Below w.heap.size w w') (fun i _ => 84 - (intOf i).toNat)
        case atStart => exact ⟨0, SB, by omega, rfl, HLS.out, HBS.out, HO7.out, HP7.out, HQ7.out, HB7.out⟩
        case round =>
          obtain ⟨k, ys, hk, rfl, hyl, hyb, hyo, hpp, hqq, hbb⟩ := hrel
          have HYL := hid hyl; have HYB := hid hyb; have HYO := hid hyo; have HPK := hid hpp; have HQK := hid hqq; have HBK := hid hbb
          clear hyl hyb hyo hpp hqq hbb HO7 HP7 HQ7 HB7
          have hk0 : (0 : Int) ≤ (k : Int) := by omega
          by_cases hkl : k < 84
          · have hk1 : (k : Int) < 84 := by omega
            have hjl : k < ys.length := by rw [HYL.out]; exact hkl
            have cx := HYO.out.cell k hjl
            have fx := HYO.out.free k
            have hx16 : bits .xor .u8 (ys.getD k 0) 9 = xorI (ys.getD k 0) 9 := xorI_eq _ 9 (HYB.out.at_ k).1
            have hst := HYO.out.set k hjl (xorI (ys.getD k 0) 9)
            have hgs := grown_set wr q k (.int .u8 (xorI (ys.getD k 0) 9))
            obtain ⟨ow, hw⟩ : ∃ cs, wr.heap[q]? = some (.cells cs 5 (0, 0)) := by
              rcases HYO.out.2 with ⟨e, _⟩ | ⟨g', cap', cur', e, _, hh, _⟩
              · cases e
              · simp only [Value.slice.injEq, Option.some.injEq, Addr.mk.injEq] at e
                obtain ⟨⟨rfl, _⟩, _⟩ := e
                exact ⟨_, hh⟩
            obtain ⟨r1, r2⟩ := HPK.out.write HQK.out hw (by decide) hgs
            have hbn := HBK.out.setCell (p := ⟨q, k, none⟩) hwq (.int .u8 (xorI (ys.getD k 0) 9))
            have HST := hid hst; have HPN := hid r1; have HQN := hid r2; have HBN := hid hbn
            clear hst hgs hw r1 r2 hbn
            generalize ys.getD k 0 = x at *
            go_wp2
            go_roundw
            case rel => exact ⟨k + 1, _, by omega, by go_num, by rw [List.length_set]; exact HYL.out, bytes_set HYB.out k (xor_byte _ _), HST.out, HPN.out, HQN.out, HBN.out⟩
            case measure => simp [intOf]; omega
          · obtain rfl : k = 84 := by omega
            clear HYL HYB HYO HQK hkl
            go_wp2_with (go_at_call 25; refine hold ?_)
            refine hid ?_
            refine Calls.mono (clive_calls wr (HT.out.below HBK.out)) ?_
            rintro e w8 ⟨rfl, hb8⟩
            have HB8 := hid (below_then HBK.out hb8); have HP8 := hid (HPK.out.below hb8)
            clear hb8 HBK HPK
            go_wp2_with (go_at_call 32; refine hold ?_)
            refine hid ?_
            refine Calls.mono (pdo_calls p gx gy _ _ none 0 cells_seal sec frm two L last w8 (HT.out.below HB8.out) HP8.out (by have := HL.out; omega) (nil_ok 1 w8)) ?_
            rintro e w9 ⟨rfl, ⟨sec', frm', two', L', last', hP9, hL9⟩, hk9⟩
            have HB9 := hid (hk9.below HB8.out hp0 hx0 hy0); have HP9 := hid hP9
            have HL9 := hid hL9
            clear hk9 hP9 hL9 HP8
            go_wp2_with (go_at_call 32; refine hold ?_)
            refine hid ?_
            refine Calls.mono (pdo_calls p gx gy _ _ none 0 cells_open sec' frm' two' L' last' w9 (HT.out.below HB9.out) HP9.out (by have := HL9.out; have := HL.out; omega) (nil_ok 3 w9)) ?_
            rintro e w10 ⟨rfl, _, hk10⟩
            have HB10 := hid (hk10.below HB9.out hp0 hx0 hy0)
            clear hk10
            go_wp2
            go_ret
            exact ⟨rfl, HB10.out⟩


end Go.Proofs.YtaieajfgcnaedaaDoor
