/-
  LAYER 6, WALKS: the law's deeds on a pair of keys: what a deed is; Turn.
-/
import Derived.Test.YtaieajfgcnaedaaDoorRefH
import Derived.Deep.RegionHeld3
set_option linter.unusedVariables false
set_option linter.unusedSimpArgs false
namespace Go.Proofs.YtaieajfgcnaedaaDoor
open Go.RowKit

structure Dd where
  k : Int
  bs : List Int
  ck : Ck
  now : Int
  at_ : Int
  by_ : Int
  back : Int
/-- The cells of a deed. -/
structure DCells (D : Array Value) (d : Dd) (A : Option Addr) (c : Nat) : Prop where
  c0 : D[0]? = some (.int .i64 d.k)
  c1 : D[1]? = some (.slice A d.bs.length c)
  ck : ∀ (j : Nat) v, d.ck.cells.toList[j]? = some v → D[2 + j]? = some v
  c15 : D[15]? = some (.int .i64 d.now)
  c16 : D[16]? = some (.int .u8 d.at_)
  c17 : D[17]? = some (.int .u8 d.by_)
  c18 : D[18]? = some (.int .u8 d.back)
/-- What a deed's fields may be. -/
structure DOk (w : World) (d : Dd) (A : Option Addr) (c : Nat) : Prop where
  rd : Rd w .u8 A d.bs
  nil : A = none → c = 0
  by_ : Bytes d.bs
  lc : d.bs.length ≤ c
  cm : c ≤ 140737488351232
  ck : d.ck.Ok
  at_ : 0 ≤ d.at_ ∧ d.at_ < 256
  bb : 0 ≤ d.by_ ∧ d.by_ < 256
  bk : 0 ≤ d.back ∧ d.back < 256
theorem DOk.below {w w' : World} {d : Dd} {A : Option Addr} {c : Nat} (h : DOk w d A c) (hb : Below w.heap.size w w') : DOk w' d A c := ⟨h.rd.below hb, h.nil, h.by_, h.lc, h.cm, h.ck, h.at_, h.bb, h.bk⟩
/-- Block b is a deed. -/
structure DBlk (w : World) (b : Nat) (d : Dd) (A : Option Addr) (c : Nat) : Prop where
  lt : b < w.heap.size
  c0 : w.cell? ⟨b, 0, none⟩ = some (.int .i64 d.k)
  c1 : w.cell? ⟨b, 1, none⟩ = some (.slice A d.bs.length c)
  ck : w.rangeAt b 2 d.ck.cells.toList
  c15 : w.cell? ⟨b, 15, none⟩ = some (.int .i64 d.now)
  c16 : w.cell? ⟨b, 16, none⟩ = some (.int .u8 d.at_)
  c17 : w.cell? ⟨b, 17, none⟩ = some (.int .u8 d.by_)
  c18 : w.cell? ⟨b, 18, none⟩ = some (.int .u8 d.back)
theorem DBlk.new {D : Array Value} {d : Dd} {A : Option Addr} {c : Nat} (h : DCells D d A c) (w : World) (t : TypeId) : DBlk (w.alloc (.cells D t)) w.heap.size d A c := by
  have hg := heap_alloc_new w (.cells D t)
  have hc : ∀ i, (w.alloc (.cells D t)).cell? ⟨w.heap.size, i, none⟩ = D[i]? := fun i => cell_of_row _ _ i _ _ _ hg
  exact ⟨by simp, (hc 0).trans h.c0, (hc 1).trans h.c1, fun j v hj => (hc (2 + j)).trans (h.ck j v hj), (hc 15).trans h.c15, (hc 16).trans h.c16, (hc 17).trans h.c17, (hc 18).trans h.c18⟩
theorem DBlk.keep {w w' : World} {b : Nat} {d : Dd} {A : Option Addr} {c : Nat} (h : DBlk w b d A c) (hs : w.heap.size ≤ w'.heap.size) (hb : w'.heap[b]? = w.heap[b]?) : DBlk w' b d A c := by
  have hc : ∀ i, w'.cell? ⟨b, i, none⟩ = w.cell? ⟨b, i, none⟩ := fun i => by simp only [World.cell?, hb]
  exact ⟨Nat.lt_of_lt_of_le h.lt hs, (hc 0).trans h.c0, (hc 1).trans h.c1, fun j v hj => (hc (2 + j)).trans (h.ck j v hj), (hc 15).trans h.c15, (hc 16).trans h.c16, (hc 17).trans h.c17, (hc 18).trans h.c18⟩
theorem DBlk.below {w w' : World} {b : Nat} {d : Dd} {A : Option Addr} {c : Nat} (h : DBlk w b d A c) (hb : Below w.heap.size w w') : DBlk w' b d A c := h.keep hb.size (hb.block b h.lt)
/-- All is as it was, but for three blocks, and what is new. -/
structure Kept3 (p q r : Nat) (w w' : World) : Prop where
  os : w'.os = w.os
  tape : w'.tape = w.tape
  output : w'.output = w.output
  size : w.heap.size ≤ w'.heap.size
  block : ∀ b, b < w.heap.size → b ≠ p → b ≠ q → b ≠ r → w'.heap[b]? = w.heap[b]?
theorem Kept3.of_below {p q r : Nat} {w w' : World} (h : Below w.heap.size w w') : Kept3 p q r w w' := ⟨h.os, h.tape, h.output, h.size, fun b hb _ _ _ => h.block b hb⟩
theorem Kept3.trans {p q r : Nat} {a b c : World} (h : Kept3 p q r a b) (k : Kept3 p q r b c) : Kept3 p q r a c :=
  ⟨k.os.trans h.os, k.tape.trans h.tape, k.output.trans h.output, Nat.le_trans h.size k.size, fun i hi h1 h2 h3 => (k.block i (Nat.lt_of_lt_of_le hi h.size) h1 h2 h3).trans (h.block i hi h1 h2 h3)⟩
theorem Kept3.of_grown {p q r s : Nat} {w w' : World} (h : w.grownBy w' (some s)) (hs : s = p ∨ s = q ∨ s = r ∨ w.heap.size ≤ s) : Kept3 p q r w w' :=
  ⟨h.os, h.tape, h.output, h.size, fun b hb h1 h2 h3 => h.block b hb (fun e => by injection e with e; subst e; rcases hs with e | e | e | e; exact h1 e; exact h2 e; exact h3 e; omega)⟩
/-- A write to a block behind all that was there. -/
theorem Kept3.set {p q r : Nat} {w w' : World} (h : Kept3 p q r w w') {s o : Nat} (hs : w.heap.size ≤ s) (v : Value) : Kept3 p q r w (w'.setCell ⟨s, o, none⟩ v) :=
  ⟨h.os, h.tape, h.output, by rw [show (w'.setCell ⟨s, o, none⟩ v).heap.size = w'.heap.size by simp [World.setCell]]; exact h.size, fun b hb h1 h2 h3 => (Below.heap_setCell _ _ _ _ (show b ≠ s by omega)).trans (h.block b hb h1 h2 h3)⟩
theorem Kept3.below {p q r : Nat} {a w w' : World} (h : Kept3 p q r w w') (ha : Below a.heap.size a w) (hp : a.heap.size ≤ p) (hq : a.heap.size ≤ q) (hr : a.heap.size ≤ r) : Below a.heap.size a w' :=
  ⟨h.os.trans ha.os, h.tape.trans ha.tape, h.output.trans ha.output, Nat.le_trans ha.size h.size, fun b hb => (h.block b (Nat.lt_of_lt_of_le hb ha.size) (by omega) (by omega) (by omega)).trans (ha.block b hb)⟩
theorem KSt.typ {w : World} {g : Nat} {sec frm : List Int} {two : Bool} (h : KSt w g sec frm two) : ∃ cs, w.heap[g]? = some (.cells cs 78 (0, 0)) := by
  obtain ⟨A, n, c, A', n', c', h1, _⟩ := h.ex
  exact ⟨_, h1⟩
theorem RSt.typ {w : World} {g : Nat} {L : List (List Int)} (h : RSt w g L) : ∃ cs, w.heap[g]? = some (.cells cs 86 (0, 0)) := by
  obtain ⟨v, row, base, h1, _⟩ := h.ex
  exact ⟨_, h1⟩
theorem typ_ne {w : World} {a b : Nat} {cs ds : Array Value} {s t : TypeId} {f g : Nat × Nat} (h : w.heap[a]? = some (.cells cs s f)) (k : w.heap[b]? = some (.cells ds t g)) (hst : s ≠ t) : a ≠ b := fun e => by
  subst e
  rw [h] at k
  simp only [Option.some.injEq, Obj.cells.injEq] at k
  exact hst k.2.1
theorem PSt.ne {w : World} {p gx gy : Nat} {sec frm : List Int} {two : Bool} {L : List (List Int)} {last : List Int} (h : PSt w p gx gy sec frm two L last) : p ≠ gx ∧ p ≠ gy ∧ gx ≠ gy := by
  obtain ⟨A, c, h1, _⟩ := h.blk
  obtain ⟨cs, h2⟩ := h.kx.typ
  obtain ⟨ds, h3⟩ := h.ky.typ
  exact ⟨typ_ne h1 h2 (by decide), typ_ne h1 h3 (by decide), typ_ne h2 h3 (by decide)⟩
/-- A write to the keys leaves what the reference's keys read. -/
theorem Sls.offK {w w' : World} {g : Nat} {two : Bool} {n c n' c' : Nat} {A1 A2 : Option Addr} {t : TypeId} (hg : w.heap[g]? = some (.cells #[.slice A1 n c, .slice A2 n' c', .bool two] t (0, 0))) (hw : w.grownBy w' (some g)) : ∀ {vs : List Value} {L : List (List Int)}, Sls w vs L → Sls w' vs L
  | [], [], _ => trivial
  | _ :: _, _ :: _, h => ⟨by obtain ⟨A, c, h1, h2, h3, h4, h5⟩ := h.1; exact ⟨A, c, h1, h2.off hg hw, h3, h4, h5⟩, Sls.offK hg hw h.2⟩
theorem RSt.offK {w w' : World} {g gy : Nat} {two : Bool} {n c n' c' : Nat} {A1 A2 : Option Addr} (hg : w.heap[g]? = some (.cells #[.slice A1 n c, .slice A2 n' c', .bool two] 78 (0, 0))) (hw : w.grownBy w' (some g)) {L : List (List Int)} (h : RSt w gy L) (hne : gy ≠ g) : RSt w' gy L ∧ ∀ q, RQ q w gy → RQ q w' gy := by
  obtain ⟨v, row, base, h1, h2, h3⟩ := h.ex
  have hgy : w'.heap[gy]? = _ := (hw.block gy (lt_of_block h1) (fun e => hne (Option.some.inj e))).trans h1
  have hk := h2.kept hw (h2.apart hg (by decide))
  exact ⟨⟨⟨v, row, base, hgy, hk, h3.offK hg hw⟩⟩, fun q hq => ⟨v, row, base, hgy, hk, hq.row h1 h2⟩⟩
/-- A write to the reference's keys leaves what the keys read. -/
theorem KSt.offR {w w' : World} {g gx : Nat} {n c : Nat} {A1 : Option Addr} {t : TypeId} (hg : w.heap[g]? = some (.cells #[.slice A1 n c] t (0, 0))) (hw : w.grownBy w' (some g)) {sec frm : List Int} {two : Bool} (h : KSt w gx sec frm two) (hne : gx ≠ g) : KSt w' gx sec frm two ∧ ∀ q, KQ q w gx → KQ q w' gx := by
  obtain ⟨A1, n1, c1, A2, n2, c2, k1, k2, k3, k4, k5, k6, k7⟩ := h.ex
  have hgx : w'.heap[gx]? = _ := (hw.block gx (lt_of_block k1) (fun e => hne (Option.some.inj e))).trans k1
  exact ⟨⟨⟨A1, n1, c1, A2, n2, c2, hgx, k2, k3, k4.off1 hg hw, k5.off1 hg hw, k6, k7⟩, h.bs, h.bf, h.ls, h.lf⟩, fun q hq => ⟨A1, n1, c1, A2, n2, c2, two, hgx, hq.sec k1, hq.frm k1⟩⟩
/-- No cell of block b is a whole number. -/
def NoInt (w : World) (b : Nat) : Prop := ∀ o k n, w.cell? ⟨b, o, none⟩ ≠ some (.int k n)
theorem noInt_of {w : World} {b : Nat} {cs : Array Value} {t : TypeId} {fr : Nat × Nat} (h : w.heap[b]? = some (.cells cs t fr)) (hc : ∀ v ∈ cs.toList, ∀ k n, v ≠ .int k n) : NoInt w b := fun o k n e => by
  rw [cell_of_row w b o cs t fr h] at e
  exact hc _ (by rw [← Array.getElem?_toList] at e; exact List.mem_of_getElem? e) k n rfl
theorem KSt.noInt {w : World} {g : Nat} {sec frm : List Int} {two : Bool} (h : KSt w g sec frm two) : NoInt w g := by
  obtain ⟨A, n, c, A', n', c', h1, _⟩ := h.ex
  exact noInt_of h1 (by simp)
theorem RSt.noInt {w : World} {g : Nat} {L : List (List Int)} (h : RSt w g L) : NoInt w g := by
  obtain ⟨v, row, base, h1, h2, _⟩ := h.ex
  obtain ⟨A, c, rfl, _⟩ := h2.rd
  exact noInt_of h1 (by simp)
theorem PSt.noInt {w : World} {p gx gy : Nat} {sec frm : List Int} {two : Bool} {L : List (List Int)} {last : List Int} (h : PSt w p gx gy sec frm two L last) : NoInt w p ∧ NoInt w gx ∧ NoInt w gy := by
  obtain ⟨A, c, h1, _⟩ := h.blk
  exact ⟨noInt_of h1 (by simp), h.kx.noInt, h.ky.noInt⟩
theorem Rd.kept3 {p q r : Nat} {w w' : World} {A : Option Addr} {xs : List Int} (h : Rd w .u8 A xs) (hk : Kept3 p q r w w') (hn : NoInt w p ∧ NoInt w q ∧ NoInt w r) : Rd w' .u8 A xs :=
  ⟨h.len, fun j hj => by
    obtain ⟨b, o, rfl, hl, hc⟩ := h.at_ j hj
    have he := hk.block b hl (fun e => hn.1 _ _ _ (e ▸ hc)) (fun e => hn.2.1 _ _ _ (e ▸ hc)) (fun e => hn.2.2 _ _ _ (e ▸ hc))
    exact ⟨b, o, rfl, Nat.lt_of_lt_of_le hl hk.size, by simp only [World.cell?, he] at hc ⊢; exact hc⟩⟩
/-- What a deed leaves. -/
def Done (p gx gy : Nat) (n : Nat) (w : World) (e : Ending) (w' : World) : Prop :=
  e = .returned (.bool true) ∧ (∃ sec frm two L last, PSt w' p gx gy sec frm two L last ∧ L.length ≤ n + 1) ∧ Kept3 p gx gy w w'
theorem xor_byte (x y : Int) : 0 ≤ xorI x y ∧ xorI x y < 256 := by
  unfold xorI
  have := (BitVec.ofInt 8 x ^^^ BitVec.ofInt 8 y).isLt
  omega
theorem bytes_set {xs : List Int} (h : Bytes xs) (j : Nat) {u : Int} (hu : 0 ≤ u ∧ u < 256) : Bytes (xs.set j u) := fun x hx => by
  rcases List.mem_or_eq_of_mem_set hx with h1 | h1
  · exact h x h1
  · subst h1; exact hu
set_option maxHeartbeats 12800000 in
set_option maxRecDepth 100000 in
theorem pdo0 (p gx gy : Nat) (d : Dd) (D : Array Value) (A : Option Addr) (c : Nat) (hD : DCells D d A c) (hk : d.k = 0) (sec frm : List Int) (two : Bool) (L : List (List Int)) (last : List Int) (w : World) (hP : PSt w p gx gy sec frm two L last) (hL : L.length ≤ 999) (hd : DOk w d A c) :
    Calls Tryd.prog 32 #[.pointer (some ⟨p, 0, none⟩), .agg D] w (Done p gx gy L.length w) := by
  obtain ⟨k, bs, ck, now, at_, by_, back⟩ := d
  simp only at hk
  subst hk
  have HP := hid hP; have HL := hid hL
  have hB1 : Below w.heap.size w (w.alloc (.cells D 64)) := (Below.refl _ _).alloc (Nat.le_refl _) _
  have y2 : ((w.alloc (.cells D 64)).alloc (.cells #[] 5)).cell? ⟨w.heap.size, 1, none⟩ = some (.slice A bs.length c) := ((DBlk.new hD w 64).below ((Below.refl _ _).alloc (Nat.le_refl _) _)).c1
  have HD := hid (DBlk.new hD w 64); have HO := hid (hd.below hB1); have HB1 := hid hB1
  have y0 := HD.out.c0
  have y1 := HD.out.c1
  simp only at y0 y1
  have hbl : bs.length ≤ 140737488351232 := Nat.le_trans hd.lc hd.cm
  obtain ⟨A0', c0', k0, hRl, hAl⟩ := hP.blk
  have HK0 := hid k0; have HNE := hid hP.ne; have HRL := hid hRl; have HAL := hid hAl; have HBB := hid hd.by_; have HNI := hid hP.noInt
  clear hP hL hd hD k0 hB1 hRl hAl
  have hs1 : (w.alloc (.cells D 64)).heap.size = w.heap.size + 1 := by simp
  have HS1 := hid hs1
  clear hs1
  go_enter Tryd.func32, Tryd.ntmps32
  go_wp2_with (at_builtin; refine hold ?_)
  refine hid ?_
  generalize w.alloc (.cells D 64) = w1 at *
  rw [← HS1.out]
  refine wpList_app2 rfl (.tmp 20) (.tmp 22) 22 5 .u8 1 rfl elemB w1.heap.size (.slice (some ⟨w1.heap.size, 0, none⟩) 0 0) [] rfl (Own.lit w1 5 .u8 w1.heap.size (Nat.le_refl _) [] #[] 0 rfl rfl (by decide)) A c bs.length bs rfl rfl HO.out.nil (HO.out.rd.below ((Below.refl _ _).alloc (Nat.le_refl _) _)) (by simp; omega) (by simp [maxLen]; omega) (by simp) ?_
  intro v3 w3 ho3 hg3 hat3
  rw [List.nil_append] at ho3
  have hb3 : Below w1.heap.size w1 w3 := ((Below.refl w1.heap.size w1).alloc (Nat.le_refl _) _).grown hg3 (by simp) (fun q hq => Nat.le_of_eq (Option.some.inj hq))
  obtain ⟨A3, c3, rfl, hA3, hR3, hz3⟩ := ho3.rd (by omega)
  have HO3 := hid ho3; have HR3 := hid hR3; have HA3 := hid hA3; have HZ3 := hid hz3
  have hB3 : Below w.heap.size w w3 := below_then HB1.out hb3
  have HB3 := hid hB3
  have HD3 := hid (HD.out.below hb3); have HOK3 := hid (HO.out.below hb3)
  clear ho3 hg3 hat3 hR3 hA3 hz3 y0 y1 y2 HD HO
  have hS : ∀ W : World, w3.heap.size ≤ W.heap.size → W.heap[p]? = w3.heap[p]? → W.heap[w.heap.size]? = w3.heap[w.heap.size]? → W.cell? ⟨p, 0, none⟩ = some (.pointer (some ⟨gx, 0, none⟩)) ∧ W.cell? ⟨p, 1, none⟩ = some (.pointer (some ⟨gy, 0, none⟩)) ∧ W.cell? ⟨w.heap.size, 1, none⟩ = some (.slice A bs.length c) := fun W h0 h1 h2 => by
    have hp : W.heap[p]? = _ := h1.trans ((HB3.out.block p (lt_of_block HK0.out)).trans HK0.out)
    exact ⟨cellOf hp rfl, cellOf hp rfl, (HD3.out.keep h0 h2).c1⟩
  have HSS := hid hS
  have hx0 := hS w3 (Nat.le_refl _) rfl rfl
  clear hS hB3 hb3
  have hplt : p < w.heap.size := lt_of_block HK0.out
  have hxlt : gx < w.heap.size := HP.out.kx.lt
  have hylt : gy < w.heap.size := HP.out.ky.lt
  have hw3 : w.heap.size < w3.heap.size := HD3.out.lt
  go_wp2_with fail
  refine wp_region_held_drew (S := fun W => W.cell? ⟨p, 0, none⟩ = some (.pointer (some ⟨gx, 0, none⟩)) ∧ W.cell? ⟨p, 1, none⟩ = some (.pointer (some ⟨gy, 0, none⟩)) ∧ W.cell? ⟨w.heap.size, 1, none⟩ = some (.slice A bs.length c)) (by kernel_rfl) hx0 (fun hHeld => ?_)
  clear hx0
  refine wpAnyH_take (i := 0) (oi := { dst := some 24, op := Op.move (Operand.tmp 0), type := 51, pos := "law.go:50", after := #[], guard := none }) (v := ?_) rfl (by kernel_rfl) (by kernel_rfl) (by kernel_rfl) (fun _ _ _ h => h) (Or.inl ⟨by rfl, ?_⟩) hHeld ?_
  rotate_left
  · (intro w hSw; (try dsimp only at hSw); go_simp; try with_reducible rfl)
  try simp only [Act.put, List.setIfInBounds_toArray, List.set_cons_succ, List.set_cons_zero]
  refine wpAnyH_take (i := 1) (oi := { dst := some 25, op := Op.nilCheck (Operand.tmp 24), type := 0, pos := "law.go:50", after := #[{ on := 0, ground := Ground.data }], guard := none }) (v := ?_) rfl (by kernel_rfl) (by kernel_rfl) (by kernel_rfl) (fun _ _ _ h => h) (Or.inl ⟨by rfl, ?_⟩) hHeld ?_
  rotate_left
  · (intro w hSw; (try dsimp only at hSw); go_simp; try with_reducible rfl)
  try simp only [Act.put, List.setIfInBounds_toArray, List.set_cons_succ, List.set_cons_zero]
  refine wpAnyH_take (i := 2) (oi := { dst := some 26, op := Op.fieldAddr 59 (Operand.tmp 25) 0, type := 0, pos := "law.go:50", after := #[{ on := 1, ground := Ground.data }], guard := none }) (v := ?_) rfl (by kernel_rfl) (by kernel_rfl) (by kernel_rfl) (fun _ _ _ h => h) (Or.inl ⟨by rfl, ?_⟩) hHeld ?_
  rotate_left
  · (intro w hSw; (try dsimp only at hSw); go_simp; try with_reducible rfl)
  try simp only [Act.put, List.setIfInBounds_toArray, List.set_cons_succ, List.set_cons_zero]
  refine wpAnyH_take (i := 3) (oi := { dst := some 27, op := Op.load 41 (Operand.tmp 26), type := 41, pos := "law.go:50", after := #[{ on := 2, ground := Ground.data }], guard := none }) (v := ?_) rfl (by kernel_rfl) (by kernel_rfl) (by kernel_rfl) (fun _ _ _ h => h) (Or.inl ⟨by rfl, ?_⟩) hHeld ?_
  rotate_left
  · (intro w hSw; (try dsimp only at hSw); go_simp; try with_reducible rfl)
  try simp only [Act.put, List.setIfInBounds_toArray, List.set_cons_succ, List.set_cons_zero]
  refine wpAnyH_take (i := 4) (oi := { dst := some 28, op := Op.move (Operand.tmp 5), type := 22, pos := "law.go:50", after := #[], guard := none }) (v := ?_) rfl (by kernel_rfl) (by kernel_rfl) (by kernel_rfl) (fun _ _ _ h => h) (Or.inl ⟨by rfl, ?_⟩) hHeld ?_
  rotate_left
  · (intro w hSw; (try dsimp only at hSw); go_simp; try with_reducible rfl)
  try simp only [Act.put, List.setIfInBounds_toArray, List.set_cons_succ, List.set_cons_zero]
  refine wpAnyH_take (i := 6) (oi := { dst := some 30, op := Op.move (Operand.tmp 0), type := 51, pos := "law.go:50", after := #[], guard := none }) (v := ?_) rfl (by kernel_rfl) (by kernel_rfl) (by kernel_rfl) (fun _ _ _ h => h) (Or.inl ⟨by rfl, ?_⟩) hHeld ?_
  rotate_left
  · (intro w hSw; (try dsimp only at hSw); go_simp; try with_reducible rfl)
  try simp only [Act.put, List.setIfInBounds_toArray, List.set_cons_succ, List.set_cons_zero]
  refine wpAnyH_take (i := 7) (oi := { dst := some 31, op := Op.nilCheck (Operand.tmp 30), type := 0, pos := "law.go:50", after := #[{ on := 6, ground := Ground.data }], guard := none }) (v := ?_) rfl (by kernel_rfl) (by kernel_rfl) (by kernel_rfl) (fun _ _ _ h => h) (Or.inl ⟨by rfl, ?_⟩) hHeld ?_
  rotate_left
  · (intro w hSw; (try dsimp only at hSw); go_simp; try with_reducible rfl)
  try simp only [Act.put, List.setIfInBounds_toArray, List.set_cons_succ, List.set_cons_zero]
  refine wpAnyH_take (i := 8) (oi := { dst := some 32, op := Op.fieldAddr 59 (Operand.tmp 31) 1, type := 0, pos := "law.go:50", after := #[{ on := 7, ground := Ground.data }], guard := none }) (v := ?_) rfl (by kernel_rfl) (by kernel_rfl) (by kernel_rfl) (fun _ _ _ h => h) (Or.inl ⟨by rfl, ?_⟩) hHeld ?_
  rotate_left
  · (intro w hSw; (try dsimp only at hSw); go_simp; try with_reducible rfl)
  try simp only [Act.put, List.setIfInBounds_toArray, List.set_cons_succ, List.set_cons_zero]
  refine wpAnyH_take (i := 9) (oi := { dst := some 33, op := Op.load 57 (Operand.tmp 32), type := 57, pos := "law.go:50", after := #[{ on := 8, ground := Ground.data }], guard := none }) (v := ?_) rfl (by kernel_rfl) (by kernel_rfl) (by kernel_rfl) (fun _ _ _ h => h) (Or.inl ⟨by rfl, ?_⟩) hHeld ?_
  rotate_left
  · (intro w hSw; (try dsimp only at hSw); go_simp; try with_reducible rfl)
  try simp only [Act.put, List.setIfInBounds_toArray, List.set_cons_succ, List.set_cons_zero]
  refine wpAnyH_take (i := 10) (oi := { dst := some 34, op := Op.fieldAddr 64 (Operand.tmp 3) 1, type := 0, pos := "law.go:50", after := #[], guard := none }) (v := ?_) rfl (by kernel_rfl) (by kernel_rfl) (by kernel_rfl) (fun _ _ _ h => h) (Or.inl ⟨by rfl, ?_⟩) hHeld ?_
  rotate_left
  · (intro w hSw; (try dsimp only at hSw); go_simp; try with_reducible rfl)
  try simp only [Act.put, List.setIfInBounds_toArray, List.set_cons_succ, List.set_cons_zero]
  refine wpAnyH_take (i := 11) (oi := { dst := some 35, op := Op.load 22 (Operand.tmp 34), type := 22, pos := "law.go:50", after := #[{ on := 10, ground := Ground.data }], guard := none }) (v := ?_) rfl (by kernel_rfl) (by kernel_rfl) (by kernel_rfl) (fun _ _ _ h => h) (Or.inl ⟨by rfl, ?_⟩) hHeld ?_
  rotate_left
  · (intro w hSw; (try dsimp only at hSw); go_simp; try with_reducible rfl)
  try simp only [Act.put, List.setIfInBounds_toArray, List.set_cons_succ, List.set_cons_zero]
  refine wpAnyH_ready (rs := [5]) (by kernel_rfl) (by simp) ?_
  refine AllReadyH.cons (o := _) rfl (fun K hK => ?_) AllReadyH.nil
  go_simp
  go_at_call 29
  have hd3 : Below w3.heap.size w3 w3.drew := (Below.refl _ _).drew
  refine Calls.mono (turn2_calls gx c3 bs.length A3 bs sec frm two rfl w3.drew ((HP.out.kx.below HB3.out).below hd3) (HR3.out.below hd3) HA3.out HOK3.out.by_ hbl) ?_
  rintro e w4 ⟨rfl, hk4, hg4, hq4⟩
  have hg4' : w3.grownBy w4 (some gx) := ⟨hg4.os, hg4.tape, hg4.output, hg4.size, hg4.block⟩
  obtain ⟨KA, kn, kc, KB, kn', kc', kk, _⟩ := ((HP.out.kx.below HB3.out).ex)
  have HR4 := hid (((HP.out.ky.below HB3.out).offK kk hg4' (Ne.symm HNE.out.2.2)).1)
  have HRQ4 := hid (((HP.out.ky.below HB3.out).offK kk hg4' (Ne.symm HNE.out.2.2)).2)
  have HO4 := hid (HOK3.out.rd.off kk hg4')
  have HK4 := hid hk4; have HQ4 := hid hq4; have HG4 := hid hg4'
  have HD4 := hid (HD3.out.keep hg4'.size (hg4'.block _ hw3 (fun e => by injection e with e; omega)))
  have HOW4 := hid (World.ownsRow.kept HO3.out hg4' (by
    by_cases hb : (Value.slice A3 bs.length c3).ownBlock = none
    · exact .inl hb
    · refine .inr fun e => ?_
      have h1 := (World.ownsRow.lt HO3.out gx e).1
      have h2 := HB1.out.size
      omega))
  refine hK.out _ _ (HSS.out w4 hg4'.size (hg4'.block p (by omega) (fun e => by injection e with e; exact HNE.out.1 e)) (hg4'.block _ hw3 (fun e => by injection e with e; omega))) (fun hHeld => ?_)
  clear hK K hk4 hg4 hg4' hq4 hd3 kk
  try simp only [Act.put, List.setIfInBounds_toArray, List.set_cons_succ, List.set_cons_zero]
  refine wpAnyH_ready (rs := [12]) (by kernel_rfl) (by simp) ?_
  refine AllReadyH.cons (o := _) rfl (fun K hK => ?_) AllReadyH.nil
  go_simp
  go_at_call 47
  refine Calls.mono (rkturn2_calls gy c bs.length A bs L (by have := HL.out; omega) rfl w4 HR4.out HO4.out HOK3.out.nil HOK3.out.by_ hbl) ?_
  rintro e w5 ⟨rfl, hk5, hg5, hq5⟩
  obtain ⟨RV, rrow, rbase, rk, rown, _⟩ := HR4.out.ex
  obtain ⟨RA, rc, rfl, _⟩ := rown.rd
  have hz34 := HG4.out.size
  have HK5 := hid ((HK4.out.offR rk hg5 HNE.out.2.2).1)
  have HKQ5 := hid ((HK4.out.offR rk hg5 HNE.out.2.2).2)
  have HOW5 := hid (World.ownsRow.kept HOW4.out hg5 (by
    by_cases hb : (Value.slice A3 bs.length c3).ownBlock = none
    · exact .inl hb
    · refine .inr fun e => ?_
      have h1 := (World.ownsRow.lt HO3.out gy e).1
      have h2 := HB1.out.size
      omega))
  have hp5 : w5.heap[p]? = w3.heap[p]? := (hg5.block p (by omega) (fun e => by injection e with e; exact HNE.out.2.1 e)).trans (HG4.out.block p (by omega) (fun e => by injection e with e; exact HNE.out.1 e))
  have hd5 : w5.heap[w.heap.size]? = w3.heap[w.heap.size]? := (hg5.block _ (by omega) (fun e => by injection e with e; omega)).trans (HG4.out.block _ hw3 (fun e => by injection e with e; omega))
  have HPB5 : Hid (w5.heap[p]? = some (.cells #[.pointer (some ⟨gx, 0, none⟩), .pointer (some ⟨gy, 0, none⟩), .slice A0' last.length c0'] 59 (0, 0))) := hid (hp5.trans ((HB3.out.block p hplt).trans HK0.out))
  have HR5 := hid hk5
  have HZ5 := hid (Nat.le_trans hz34 hg5.size)
  have HKE5 := hid (Kept3.trans (Kept3.of_below HB3.out) (Kept3.trans (Kept3.of_grown HG4.out (.inr (.inl rfl))) (Kept3.of_grown (p := p) (q := gx) (r := gy) hg5 (.inr (.inr (.inl rfl))))))
  have HQQ : Hid (∀ q o, A3 = some ⟨q, o, none⟩ → bs.length ≠ 0 → KQ q w5 gx ∧ RQ q w5 gy ∧ q ≠ gx ∧ q ≠ gy ∧ q ≠ p ∧ w.heap.size ≤ q) := hid fun q o e hn => by
    have h1 := (HZ3.out q o e).1
    have h2 := HB1.out.size
    obtain ⟨b', o', e', hl'⟩ := HR3.out.form 0 (by omega)
    rw [e] at e'
    injection e' with e'; injection e' with e1 e2
    subst e1
    have h3 : q < w3.drew.heap.size := hl'
    refine ⟨HKQ5.out q (HQ4.out q h3 (((HP.out.kx.q (show w.heap.size ≤ q by omega)).below HB3.out).below (Below.refl _ _).drew)), hq5 q (by show q < w4.heap.size; omega) (HRQ4.out q ((HP.out.ky.q (show w.heap.size ≤ q by omega)).below HB3.out)), by omega, by omega, by omega, by omega⟩
  refine hK.out _ _ (HSS.out w5 (by have := hg5.size; omega) hp5 hd5) (fun hHeld => ?_)
  clear hK K hk5 hq5 rk rown hp5 hd5 hz34 hg5
  try simp only [Act.put, List.setIfInBounds_toArray, List.set_cons_succ, List.set_cons_zero]
  refine wpAnyH_take (i := 13) (oi := { dst := some 37, op := Op.binOp BinOp.eql 33 (Operand.tmp 29) (Operand.tmp 36) 33, type := 4, pos := "law.go:50", after := #[{ on := 5, ground := Ground.data }, { on := 12, ground := Ground.data }], guard := none }) (v := ?_) rfl (by kernel_rfl) (by kernel_rfl) (by kernel_rfl) (fun _ _ _ h => h) (Or.inl ⟨by rfl, ?_⟩) hHeld ?_
  rotate_left
  · (intro w hSw; (try dsimp only at hSw); go_simp; try with_reducible rfl)
  try simp only [Act.put, List.setIfInBounds_toArray, List.set_cons_succ, List.set_cons_zero]
  refine wpAnyH_ready (rs := [14]) (by kernel_rfl) (by simp) ?_
  refine AllReadyH.cons (o := _) rfl (fun K hK => ?_) AllReadyH.nil
  go_simp
  refine hK.out _ _ (by assumption) (fun hHeld => ?_)
  clear hK K
  try simp only [Act.put, List.setIfInBounds_toArray, List.set_cons_succ, List.set_cons_zero]
  refine wpAnyH_done (by kernel_rfl) ?_ _
  clear HSS HK4 HQ4 HG4 HD4 HOW4 HR4 HRQ4 HO4 HKQ5 HR3 HA3 HZ3 HO3 HK0 HD3 HOK3
  go_wp2_with fail
  go_loopw [7] (fun i w' => ∃ (j : Nat) (ys : List Int), j ≤ bs.length ∧ i = .int .i64 j ∧ ys.length = bs.length ∧ Bytes ys ∧ Own w' w1.heap.size 5 .u8 (.slice A3 bs.length c3) ys ∧ (w'.heap[p]? = some (.cells #[.pointer (some ⟨gx, 0, none⟩), .pointer (some ⟨gy, 0, none⟩), .slice A0' last.length c0'] 59 (0, 0)) ∧ KSt w' gx bs sec true ∧ RSt w' gy (L ++ [bs])) ∧ Kept3 p gx gy w w' ∧ ∀ q o, A3 = some ⟨q, o, none⟩ → bs.length ≠ 0 → KQ q w' gx ∧ RQ q w' gy ∧ q ≠ gx ∧ q ≠ gy ∧ q ≠ p ∧ w.heap.size ≤ q) (fun i _ => bs.length - (intOf i).toNat)
  case atStart => exact ⟨0, bs, by omega, rfl, rfl, HBB.out, HOW5.out, ⟨HPB5.out, HK5.out, HR5.out⟩, HKE5.out, HQQ.out⟩
  case round =>
    obtain ⟨j, ys, hj, rfl, hyl, hyb, hyo, hp, hke, hqq⟩ := hrel
    have HYL := hid hyl; have HYB := hid hyb; have HYO := hid hyo; have HPj := hid hp; have HKE := hid hke; have HQJ := hid hqq
    clear hyl hyb hyo hp hke hqq HPB5 HK5 HR5 HKE5 HQQ HOW5
    have hj0 : (0 : Int) ≤ (j : Int) := by omega
    by_cases hlt : j < bs.length
    · have hj1 : (j : Int) < (bs.length : Int) := by omega
      obtain ⟨A4, c4, e4, _, hR4, hz4⟩ := HYO.out.rd (by have := HYL.out; omega)
      obtain ⟨q, o, hq, hql⟩ := hR4.form j (by rw [HYL.out]; exact hlt)
      injection e4 with e5 e6 e7
      subst e5
      subst hq
      obtain rfl : o = 0 := (hz4 q o rfl).2
      clear hR4 e6 e7 hz4
      have hjl : j < ys.length := by rw [HYL.out]; exact hlt
      have cx := HYO.out.cell j hjl
      have fx := HYO.out.free j
      have hx16 : bits .xor .u8 (ys.getD j 0) 1 = xorI (ys.getD j 0) 1 := xorI_eq _ 1 (HYB.out.at_ j).1
      have hst := HYO.out.set j hjl (xorI (ys.getD j 0) 1)
      have hgs := grown_set wr q j (.int .u8 (xorI (ys.getD j 0) 1))
      obtain ⟨n1, n2, n3, n4, n5, n6⟩ := HQJ.out q 0 rfl (by omega)
      obtain ⟨ow, hw⟩ : ∃ cs, wr.heap[q]? = some (.cells cs 5 (0, 0)) := by
        rcases HYO.out.2 with ⟨e, _⟩ | ⟨g', cap', cur', e, _, hh, _⟩
        · cases e
        · simp only [Value.slice.injEq, Option.some.injEq, Addr.mk.injEq] at e
          obtain ⟨⟨rfl, _⟩, _⟩ := e
          exact ⟨_, hh⟩
      obtain ⟨r1, r2⟩ := HPj.out.2.1.write n1 (Ne.symm n3) hgs
      obtain ⟨r3, r4⟩ := HPj.out.2.2.write n2 (Ne.symm n4) hw (by decide) hgs
      have hPn : (wr.setCell ⟨q, j, none⟩ (.int .u8 (xorI (ys.getD j 0) 1))).heap[p]? = some (.cells #[.pointer (some ⟨gx, 0, none⟩), .pointer (some ⟨gy, 0, none⟩), .slice A0' last.length c0'] 59 (0, 0)) ∧ KSt (wr.setCell ⟨q, j, none⟩ (.int .u8 (xorI (ys.getD j 0) 1))) gx bs sec true ∧ RSt (wr.setCell ⟨q, j, none⟩ (.int .u8 (xorI (ys.getD j 0) 1))) gy (L ++ [bs]) :=
        ⟨(hgs.block p (lt_of_block HPj.out.1) (fun e => by injection e with e; exact n5 e.symm)).trans HPj.out.1, r1, r3⟩
      have hkn := HKE.out.set (o := j) n6 (.int .u8 (xorI (ys.getD j 0) 1))
      have HST := hid hst; have HPN := hid hPn; have HKN := hid hkn
      have HQN : Hid (KQ q (wr.setCell ⟨q, j, none⟩ (.int .u8 (xorI (ys.getD j 0) 1))) gx ∧ RQ q (wr.setCell ⟨q, j, none⟩ (.int .u8 (xorI (ys.getD j 0) 1))) gy ∧ q ≠ gx ∧ q ≠ gy ∧ q ≠ p ∧ w.heap.size ≤ q) := hid ⟨r2, r4, n3, n4, n5, n6⟩
      clear hst hPn hkn r1 r2 r3 r4 n1 n2 n3 n4 n5 n6 hgs hw
      generalize ys.getD j 0 = x at *
      go_wp2
      go_roundw
      case rel => exact ⟨j + 1, _, by omega, by go_num, by rw [List.length_set]; exact HYL.out, bytes_set HYB.out j (xor_byte _ _), HST.out, HPN.out, HKN.out, fun q' o' e _ => by injection e with e; injection e with e1 e2; subst e1; exact HQN.out⟩
      case measure => simp [intOf]; omega
    · obtain rfl : j = bs.length := by omega
      go_wp2
      go_ret
      exact ⟨rfl, ⟨_, _, _, _, _, ⟨⟨A0', c0', HPj.out.1, HRL.out.kept3 HKE.out HNI.out, HAL.out⟩, HPj.out.2.1, HPj.out.2.2, HP.out.lk.turn bs, HP.out.bl, HP.out.ll⟩, by simp⟩, HKE.out⟩
end Go.Proofs.YtaieajfgcnaedaaDoor
