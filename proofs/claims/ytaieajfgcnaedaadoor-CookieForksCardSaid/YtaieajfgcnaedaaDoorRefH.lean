/-
  LAYER 6, WALKS: Turn, once more: in which blocks the secrets lie.
-/
import Derived.Test.YtaieajfgcnaedaaDoorRefG
set_option linter.unusedVariables false
set_option linter.unusedSimpArgs false
namespace Go.Proofs.YtaieajfgcnaedaaDoor
open Go.RowKit

/-- The rows of the keys in block g don't lie in block q. -/
def KQ (q : Nat) (w : World) (g : Nat) : Prop := ∃ A n c A' n' c' two, w.heap[g]? = some (.cells #[.slice A n c, .slice A' n' c', .bool two] 78 (0, 0)) ∧ (n ≠ 0 → ∀ b o, A = some ⟨b, o, none⟩ → b ≠ q) ∧ (n' ≠ 0 → ∀ b o, A' = some ⟨b, o, none⟩ → b ≠ q)
theorem KQ.sec {q : Nat} {w : World} {g : Nat} (h : KQ q w g) {A A' : Option Addr} {n c n' c' : Nat} {two : Bool} {t : TypeId} {fr : Nat × Nat} (hg : w.heap[g]? = some (.cells #[.slice A n c, .slice A' n' c', .bool two] t fr)) : n ≠ 0 → ∀ b o, A = some ⟨b, o, none⟩ → b ≠ q := by
  obtain ⟨B, m, d, B', m', d', tw, h1, h2, _⟩ := h
  rw [hg] at h1
  simp only [Option.some.injEq, Obj.cells.injEq, Array.mk.injEq, List.cons.injEq, Value.slice.injEq] at h1
  obtain ⟨⟨⟨rfl, rfl, rfl⟩, _⟩, _⟩ := h1
  exact h2
theorem KQ.frm {q : Nat} {w : World} {g : Nat} (h : KQ q w g) {A A' : Option Addr} {n c n' c' : Nat} {two : Bool} {t : TypeId} {fr : Nat × Nat} (hg : w.heap[g]? = some (.cells #[.slice A n c, .slice A' n' c', .bool two] t fr)) : n' ≠ 0 → ∀ b o, A' = some ⟨b, o, none⟩ → b ≠ q := by
  obtain ⟨B, m, d, B', m', d', tw, h1, _, h2⟩ := h
  rw [hg] at h1
  simp only [Option.some.injEq, Obj.cells.injEq, Array.mk.injEq, List.cons.injEq, Value.slice.injEq] at h1
  obtain ⟨⟨_, ⟨rfl, rfl, rfl⟩, _⟩, _⟩ := h1
  exact h2
theorem Rd.ne_of_size {w : World} {A : Option Addr} {xs : List Int} (h : Rd w .u8 A xs) {q : Nat} (hq : w.heap.size ≤ q) : xs.length ≠ 0 → ∀ b o, A = some ⟨b, o, none⟩ → b ≠ q := by
  intro hn b o e
  obtain ⟨b', o', e', hl⟩ := h.form 0 (by omega)
  rw [e] at e'
  injection e' with e'; injection e' with e1 e2
  omega
theorem KSt.q {w : World} {g : Nat} {sec frm : List Int} {two : Bool} (h : KSt w g sec frm two) {q : Nat} (hq : w.heap.size ≤ q) : KQ q w g := by
  obtain ⟨A1, n1, c1, A2, n2, c2, k1, k2, k3, k4, k5, k6, k7⟩ := h.ex
  exact ⟨A1, n1, c1, A2, n2, c2, two, k1, by rw [← k2]; exact k4.ne_of_size hq, by rw [← k3]; exact k5.ne_of_size hq⟩
theorem KQ.below {q : Nat} {w w' : World} {g : Nat} (h : KQ q w g) (hb : Below w.heap.size w w') : KQ q w' g := by
  obtain ⟨A, n, c, A', n', c', two, h1, h2⟩ := h
  exact ⟨A, n, c, A', n', c', two, (hb.block _ (lt_of_block h1)).trans h1, h2⟩
theorem Rd.write {w w' : World} {A : Option Addr} {xs : List Int} (h : Rd w .u8 A xs) {q : Nat} (hq : xs.length ≠ 0 → ∀ b o, A = some ⟨b, o, none⟩ → b ≠ q) (hw : w.grownBy w' (some q)) : Rd w' .u8 A xs := by
  by_cases hn : xs.length = 0
  · rw [List.length_eq_zero_iff.1 hn]; exact Rd.nil _ _ _
  · exact h.kept hw fun b o e h1 => hq hn b o e (Option.some.inj h1)
theorem KSt.write {w w' : World} {g : Nat} {sec frm : List Int} {two : Bool} (h : KSt w g sec frm two) {q : Nat} (hq : KQ q w g) (hne : g ≠ q) (hw : w.grownBy w' (some q)) : KSt w' g sec frm two ∧ KQ q w' g := by
  obtain ⟨A1, n1, c1, A2, n2, c2, k1, k2, k3, k4, k5, k6, k7⟩ := h.ex
  have hg : w'.heap[g]? = _ := (hw.block g (lt_of_block k1) (fun e => hne (Option.some.inj e))).trans k1
  have h1 := hq.sec k1
  have h2 := hq.frm k1
  exact ⟨⟨⟨A1, n1, c1, A2, n2, c2, hg, k2, k3, k4.write (by rw [k2]; exact h1) hw, k5.write (by rw [k3]; exact h2) hw, k6, k7⟩, h.bs, h.bf, h.ls, h.lf⟩, ⟨A1, n1, c1, A2, n2, c2, two, hg, h1, h2⟩⟩
/-- A slice whose row doesn't lie in block q. -/
def SlQ (q : Nat) (u : Value) : Prop := ∀ A n c, u = .slice A n c → n ≠ 0 → ∀ b o, A = some ⟨b, o, none⟩ → b ≠ q
/-- The rows of the reference's keys in block g don't lie in block q. -/
def RQ (q : Nat) (w : World) (g : Nat) : Prop := ∃ v row base, w.heap[g]? = some (.cells #[v] 86 (0, 0)) ∧ OwnV w base 22 v row ∧ ∀ u ∈ row, SlQ q u
theorem OwnV.uniq {w : World} {base base' : Nat} {e : TypeId} {v : Value} {xs ys : List Value} (h : OwnV w base e v xs) (k : OwnV w base' e v ys) : xs = ys := by
  rcases h.2 with ⟨rfl, h0⟩ | ⟨g, cap, cur, rfl, _, hh, _, _, _, h4⟩
  · rcases k.2 with ⟨_, k0⟩ | ⟨g', cap', cur', e', _⟩
    · rw [List.length_eq_zero_iff.1 h0, List.length_eq_zero_iff.1 k0]
    · cases e'
  · rcases k.2 with ⟨e', _⟩ | ⟨g', cap', cur', e', _, kh, _, _, _, k4⟩
    · cases e'
    · simp only [Value.slice.injEq, Option.some.injEq, Addr.mk.injEq] at e'
      obtain ⟨⟨rfl, _⟩, e2, rfl⟩ := e'
      rw [hh] at kh
      simp only [Option.some.injEq, Obj.cells.injEq] at kh
      obtain ⟨rfl, _⟩ := kh
      rw [← h4, ← k4, e2]
theorem RQ.row {q : Nat} {w : World} {g : Nat} (h : RQ q w g) {v : Value} {base : Nat} {row : List Value} {t : TypeId} {fr : Nat × Nat} (hg : w.heap[g]? = some (.cells #[v] t fr)) (ho : OwnV w base 22 v row) : ∀ u ∈ row, SlQ q u := by
  obtain ⟨v', row', base', h1, h2, h3⟩ := h
  rw [hg] at h1
  simp only [Option.some.injEq, Obj.cells.injEq, Array.mk.injEq, List.cons.injEq] at h1
  obtain ⟨⟨rfl, _⟩, _⟩ := h1
  rw [ho.uniq h2]
  exact h3
theorem Sls.q {w : World} {q : Nat} (hq : w.heap.size ≤ q) : ∀ {vs : List Value} {L : List (List Int)}, Sls w vs L → ∀ u ∈ vs, SlQ q u
  | [], [], _, u, hu => by simp at hu
  | v :: vs, _ :: _, h, u, hu => by
    rcases List.mem_cons.1 hu with rfl | hu
    · obtain ⟨A, c, rfl, hR, _⟩ := h.1
      intro A' n' c' e
      injection e with e1 e2 e3
      subst e1 e2
      exact hR.ne_of_size hq
    · exact Sls.q hq h.2 u hu
theorem RSt.q {w : World} {g : Nat} {L : List (List Int)} (h : RSt w g L) {q : Nat} (hq : w.heap.size ≤ q) : RQ q w g := by
  obtain ⟨v, row, base, h1, h2, h3⟩ := h.ex
  exact ⟨v, row, base, h1, h2, h3.q hq⟩
theorem RQ.below {q : Nat} {w w' : World} {g : Nat} (h : RQ q w g) (hb : Below w.heap.size w w') : RQ q w' g := by
  obtain ⟨v, row, base, h1, h2, h3⟩ := h
  exact ⟨v, row, base, (hb.block _ (lt_of_block h1)).trans h1, h2.below hb, h3⟩
theorem Sls.write {w w' : World} {q : Nat} (hw : w.grownBy w' (some q)) : ∀ {vs : List Value} {L : List (List Int)}, Sls w vs L → (∀ u ∈ vs, SlQ q u) → Sls w' vs L
  | [], [], _, _ => trivial
  | v :: vs, _ :: _, h, hq => by
    obtain ⟨⟨A, c, rfl, h2, h3, h4, h5⟩, ht⟩ := h
    exact ⟨⟨A, c, rfl, h2.write (hq _ (List.mem_cons_self ..) A _ c rfl) hw, h3, h4, h5⟩, Sls.write hw ht fun u hu => hq u (List.mem_cons_of_mem _ hu)⟩
/-- A row of values in another block than q. -/
theorem OwnV.apart {w : World} {base : Nat} {e t : TypeId} {v : Value} {xs : List Value} (h : OwnV w base e v xs) {q : Nat} {cs : Array Value} {fr : Nat × Nat} (hq : w.heap[q]? = some (.cells cs t fr)) (hne : t ≠ e) : v.ownBlock = none ∨ v.ownBlock ≠ some q := by
  rcases h.2 with ⟨rfl, _⟩ | ⟨g, cap, cur, rfl, _, hh, _⟩
  · exact .inl rfl
  · refine .inr fun h1 => hne ?_
    have h1 : some g = some q := h1
    injection h1 with h1
    subst h1
    rw [hh] at hq
    simp only [Option.some.injEq, Obj.cells.injEq] at hq
    exact hq.2.1.symm
theorem RSt.write {w w' : World} {g : Nat} {L : List (List Int)} (h : RSt w g L) {q : Nat} (hq : RQ q w g) (hne : g ≠ q) {cs : Array Value} {t : TypeId} {fr : Nat × Nat} (hb : w.heap[q]? = some (.cells cs t fr)) (ht : t ≠ 22) (hw : w.grownBy w' (some q)) : RSt w' g L ∧ RQ q w' g := by
  obtain ⟨v, row, base, h1, h2, h3⟩ := h.ex
  have hg : w'.heap[g]? = _ := (hw.block g (lt_of_block h1) (fun e => hne (Option.some.inj e))).trans h1
  have hk := h2.kept hw (h2.apart hb ht)
  have hr := hq.row h1 h2
  exact ⟨⟨⟨v, row, base, hg, hk, h3.write hw hr⟩⟩, ⟨v, row, base, hg, hk, hr⟩⟩
set_option maxHeartbeats 3200000 in
theorem turn2_calls (g c n : Nat) (A : Option Addr) (xs sec frm : List Int) (two : Bool) (hn : xs.length = n) (w : World) (hK : KSt w g sec frm two) (hR : Rd w .u8 A xs) (hA : A = none → c = 0) (hb : Bytes xs) (hl : n ≤ 140737488351232) :
    Calls Tryd.prog 29 #[.pointer (some ⟨g, 0, none⟩), .slice A n c] w fun e w' => e = .returned (.int .i64 0) ∧ KSt w' g xs sec true ∧ w.grownBy w' (some g) ∧ ∀ q, q < w.heap.size → KQ q w g → KQ q w' g := by
  obtain ⟨A1, n1, c1, A2, n2, c2, k1, k2, k3, k4, k5, k6, k7⟩ := hK.ex
  have HK1 := hid k1; have HR := hid hR; have HA := hid hA; have HB := hid hb; have HN := hid hn
  have HX := hid (show sec.length = n1 ∧ Rd w .u8 A1 sec ∧ (A1 = none → c1 = 0) ∧ Bytes sec ∧ sec.length ≤ 140737488351232 from ⟨k2, k4, k6, hK.bs, hK.ls⟩)
  have x0 : w.cell? ⟨g, 0, none⟩ = some (.slice A1 n1 c1) := cellOf k1 rfl
  have x1 : w.cell? ⟨g, 1, none⟩ = some (.slice A2 n2 c2) := cellOf k1 rfl
  have x2 : w.cell? ⟨g, 2, none⟩ = some (.bool two) := cellOf k1 rfl
  have f0 : ∀ i, w.frozen? ⟨g, i, none⟩ = false := fun i => frozen_of_row w g i _ _ k1
  have HG : Hid (w.grownBy w none) := hid (World.grownBy.refl _ _)
  have hgl := hid (lt_of_block k1)
  clear hK k1 k2 k3 k4 k5 k6 k7 hR hA hb hn
  go_enter Tryd.func29, Tryd.ntmps29
  go_wp2_with fail
  go_region_with (first | (go_at_call 38; refine Calls.mono (clone_calls c n A xs HN.out _ (HR.out.below (below_drewN (Below.refl _ _) 1)) HA.out hl) ?_; rintro e w1 ⟨v, rfl, ho, hb⟩; obtain ⟨A3, c3, rfl, hA3, hR3, hn3⟩ := ho.rd (by rw [HN.out]; omega); have y2 : w1.heap[g]? = some (.cells #[.slice A1 n1 c1, .slice A2 n2 c2, .bool two] 78 (0, 0)) := (hb.block _ hgl.out).trans HK1.out; have y0 : w1.cell? ⟨g, 0, none⟩ = some (.slice A1 n1 c1) := cellOf y2 rfl; have y5 : w1.cell? ⟨g, 1, none⟩ = some (.slice A2 n2 c2) := cellOf y2 rfl; have y6 : w1.cell? ⟨g, 2, none⟩ = some (.bool two) := cellOf y2 rfl; have y1 : ∀ i, w1.frozen? ⟨g, i, none⟩ = false := fun i => frozen_of_row w1 g i _ _ y2))
  all_goals
    have hb' : Below w.heap.size w w1 := ⟨hb.os, hb.tape, hb.output, hb.size, hb.block⟩
    have hw : w1.grownBy (((w1.setCell ⟨g, 1, none⟩ (Value.slice A1 n1 c1)).setCell ⟨g, 0, none⟩ (Value.slice A3 xs.length c3)).setCell ⟨g, 2, none⟩ (Value.bool true)) (some g) := grown_trans (grown_trans (grown_set _ _ _ _) (grown_set _ _ _ _)) (grown_set _ _ _ _)
    have hW := hs (i := 2) (v := Value.bool true) (hs (i := 0) (v := Value.slice A3 xs.length c3) (hs (i := 1) (v := Value.slice A1 n1 c1) y2))
    generalize ((w1.setCell ⟨g, 1, none⟩ (Value.slice A1 n1 c1)).setCell ⟨g, 0, none⟩ (Value.slice A3 xs.length c3)).setCell ⟨g, 2, none⟩ (Value.bool true) = w3 at *
    obtain ⟨q1, q2, q3, q4, q5⟩ := HX.out
    have q6 := (q2.below hb').off y2 hw
    have q7 := hR3.off y2 hw
    have hxl := HN.out
    have hxb := HB.out
    have q8 := grown_trans (grown_below (row := some g) hb') hw
    have HQ1 := hid q1; have HQ3 := hid q3; have HQ4 := hid q4; have HQ5 := hid q5; have HQ6 := hid q6; have HQ7 := hid q7; have HXL := hid hxl; have HXB := hid hxb; have HQ8 := hid q8; have HW := hid hW; have HA3 := hid hA3; have HN3 : Hid (∀ b o, A3 = some ⟨b, o, none⟩ → w.heap.size ≤ b ∧ o = 0) := hn3
    clear q1 q2 q3 q4 q5 q6 q7 hxl hxb q8 hW hw hA3 hR3 hn3 ho hb hb' y0 y1 y2 y5 y6 x0 x1 x2 f0 HX HN HB HA HR HG
    go_wp2
    go_ret
    exact ⟨rfl, ⟨⟨A3, xs.length, c3, A1, n1, c1, HW.out, rfl, HQ1.out, HQ7.out, HQ6.out, HA3.out, HQ3.out⟩, HXB.out, HQ4.out, by rw [HXL.out]; exact hl, HQ5.out⟩, HQ8.out, fun q hq hK => ⟨A3, xs.length, c3, A1, n1, c1, true, HW.out, fun _ b o e => by have := (HN3.out b o e).1; omega, hK.sec HK1.out⟩⟩

set_option maxHeartbeats 6400000 in
set_option maxRecDepth 100000 in
theorem rkturn2_calls (g c n : Nat) (A : Option Addr) (xs : List Int) (L : List (List Int)) (hL : L.length ≤ 1000) (hn : xs.length = n) (w : World) (hK : RSt w g L) (hR : Rd w .u8 A xs) (hA : A = none → c = 0) (hb : Bytes xs) (hl : n ≤ 140737488351232) :
    Calls Tryd.prog 47 #[.pointer (some ⟨g, 0, none⟩), .slice A n c] w fun e w' => e = .returned (.int .i64 0) ∧ RSt w' g (L ++ [xs]) ∧ w.grownBy w' (some g) ∧ ∀ q, q < w.heap.size → RQ q w g → RQ q w' g := by
  obtain ⟨v, row, base, k1, k2, k3⟩ := hK.ex
  obtain ⟨A1, c1, rfl, hA1, hV1, _⟩ := k2.rd
  have hrl := Sls.len k3
  have x0 : (w.alloc (.cells #[] 22)).cell? ⟨g, 0, none⟩ = some (.slice A1 row.length c1) := (((Below.refl w.heap.size w).alloc (Nat.le_refl _) _).cell (p := ⟨g, 0, none⟩) hK.lt).trans (cellOf k1 rfl)
  have HK1 := hid k1; have HK3 := hid k3; have HV1 := hid hV1; have HA1 := hid hA1; have HRL := hid hrl; have HK2 := hid k2
  have HR := hid hR; have HA := hid hA; have HB := hid hb; have HN := hid hn; have HGL := hid hK.lt
  clear hR hA hb hn k1 k2 k3 hA1 hV1 hrl hK
  go_enter Tryd.func47, Tryd.ntmps47
  go_wp2_with (at_builtin; refine hold ?_)
  refine hid ?_
  clear x0
  refine wpList_appV rfl (.tmp 8) (.tmp 12) 84 22 (.slice none 0 0) rfl 24 rfl elemSl w.heap.size (.slice (some ⟨w.heap.size, 0, none⟩) 0 0) [] rfl (OwnV.lit w 22 w.heap.size (Nat.le_refl _) [] #[] 0 rfl rfl (by decide)) A1 c1 row.length row rfl rfl HA1.out (HV1.out.below ((Below.refl _ _).alloc (Nat.le_refl _) _)) (Sls.one HK3.out) (by have := HRL.out; simp; omega) (by have := HRL.out; simp [maxLen]; omega) (by simp) ?_
  intro v3 w3 ho3 hg3 hat3
  rw [List.nil_append] at ho3
  have hb3 : Below w.heap.size w w3 := ((Below.refl w.heap.size w).alloc (Nat.le_refl _) _).grown hg3 (by simp) (fun q hq => Nat.le_of_eq (Option.some.inj hq))
  have HO3 := hid ho3; have HB3 := hid hb3
  obtain ⟨A3, c3, rfl, hA3, hV3, _⟩ := ho3.rd
  clear ho3 hg3 hat3 hb3 hA3 hV3
  go_wp2_with (at_builtin; refine hold ?_)
  refine hid ?_
  refine wpList_app2 rfl (.tmp 14) (.tmp 15) 22 5 .u8 1 rfl elemB w3.heap.size (.slice (some ⟨w3.heap.size, 0, none⟩) 0 0) [] rfl (Own.lit w3 5 .u8 w3.heap.size (Nat.le_refl _) [] #[] 0 rfl rfl (by decide)) A c n xs rfl HN.out HA.out ((HR.out.below HB3.out).below ((Below.refl _ _).alloc (Nat.le_refl _) _)) (by simp; omega) (by simp [maxLen]; omega) (by simp) ?_
  intro v4 w4 ho4 hg4 hat4
  rw [List.nil_append] at ho4
  have hb4 : Below w3.heap.size w3 w4 := ((Below.refl w3.heap.size w3).alloc (Nat.le_refl _) _).grown hg4 (by simp) (fun q hq => Nat.le_of_eq (Option.some.inj hq))
  obtain ⟨A4, c4, rfl, hA4, hR4, hb4'⟩ := ho4.rd (by rw [HN.out]; omega)
  have H4 := hid (show Rd w4 .u8 A4 xs ∧ (A4 = none → c4 = 0) ∧ ∀ b o, A4 = some ⟨b, o, none⟩ → w3.heap.size ≤ b ∧ o = 0 from ⟨hR4, hA4, hb4'⟩)
  have HB4 := hid hb4
  clear ho4 hg4 hat4 hb4 hA4 hR4 hb4'
  go_wp2_with (at_builtin; refine hold ?_)
  refine hid ?_
  have hlit := OwnV.lit w4 22 w4.heap.size (Nat.le_refl _) [.slice A4 xs.length c4] #[.slice A4 xs.length c4] 1 rfl rfl (by simp [maxLen])
  obtain ⟨A5, c5, e5, _, hV5, _⟩ := hlit.rd
  simp only [Value.slice.injEq] at e5
  obtain ⟨rfl, hl1, rfl⟩ := e5
  clear hl1
  have hBa : Below w4.heap.size w4 (w4.alloc (.cells #[.slice A4 xs.length c4] 22)) := (Below.refl _ _).alloc (Nat.le_refl _) _
  have HBA := hid hBa; have HV5 := hid hV5
  clear hlit hBa hV5
  generalize w4.alloc (.cells #[.slice A4 xs.length c4] 22) = wa at *
  refine wpList_appV rfl (.tmp 13) (.tmp 17) 84 22 (.slice none 0 0) rfl 24 rfl elemSl w.heap.size (.slice A3 row.length c3) row rfl ((HO3.out.below HB4.out).below HBA.out) (some ⟨w4.heap.size, 0, none⟩) 1 1 [.slice A4 xs.length c4] rfl rfl (fun h => by simp at h) HV5.out (by simp [Value.oneCell']) (by have := HRL.out; omega) (by have := HRL.out; simp [maxLen]; omega) (by have := HB3.out.size; have := HB4.out.size; have := HBA.out.size; omega) ?_
  intro v5 w5 ho5 hg5 hat5
  have hb34 : Below w.heap.size w wa := HB3.out.trans ((HB4.out.mono HB3.out.size).trans (HBA.out.mono (Nat.le_trans HB3.out.size HB4.out.size)))
  have hlow : ∀ q, (Value.slice A3 row.length c3).ownBlock = some q → w.heap.size ≤ q ∧ q < w3.heap.size := fun q hq => HO3.out.lt q hq
  have hb5 : Below w.heap.size w w5 := hb34.grown hg5 hb34.size (fun q hq => (hlow q hq).1)
  have hR5 : Rd w5 .u8 A4 xs := (H4.out.1.below HBA.out).kept hg5 (fun b o e h => by
    have h1 := (H4.out.2.2 b o e).1
    have h2 := (hlow b h.symm).2
    omega)
  obtain ⟨A6, c6, rfl, hA6, hV6, hat6⟩ := ho5.rd
  have hgb : w5.heap[g]? = some (.cells #[.slice A1 row.length c1] 86 (0, 0)) := (hb5.block _ HGL.out).trans HK1.out
  have x1 : w5.cell? ⟨g, 0, none⟩ = some (.slice A1 row.length c1) := cellOf hgb rfl
  have f1 : w5.frozen? ⟨g, 0, none⟩ = false := frozen_of_row w5 g 0 _ _ hgb
  have HFR : Hid (∀ b o, A4 = some ⟨b, o, none⟩ → w.heap.size ≤ b) := hid fun b o e => by have := (H4.out.2.2 b o e).1; have := HB3.out.size; omega
  have hsl : Sls w5 (row ++ [.slice A4 xs.length c4]) (L ++ [xs]) := Sls.append (HK3.out.below hb5) ⟨⟨A4, c4, rfl, hR5, H4.out.2.1, HB.out, by rw [HN.out]; exact hl⟩, trivial⟩
  have HSL := hid hsl; have HGB := hid hgb; have HO5 := hid ho5; have HB5 := hid hb5
  clear hat6 hV6 hA6 hR5 hb34 hlow hb5 hg5 hat5 hsl hgb ho5 HV5 HBA HB4 H4 HB3 HO3
  have hn5 : (row ++ [Value.slice A4 xs.length c4]).length = row.length + 1 := by simp
  rw [hn5] at HO5 ⊢
  clear hn5
  go_wp2
  go_ret
  have hset := hs (i := 0) (v := Value.slice A6 (row.length + 1) c6) HGB.out
  have hgr := grown_set w5 g 0 (Value.slice A6 (row.length + 1) c6)
  have hne : ∀ q, (Value.slice A6 (row.length + 1) c6).ownBlock = some q → w.heap.size ≤ q := fun q hq => (HO5.out.lt q hq).1
  have hrow := HO5.out.kept hgr ?_
  refine ⟨rfl, ⟨⟨_, _, _, hset, hrow, HSL.out.off1 HGB.out hgr⟩⟩, grown_trans (grown_below HB5.out) hgr, fun q hq hK => ⟨_, _, _, hset, hrow, fun u hu => ?_⟩⟩
  · rcases List.mem_append.1 hu with hu | hu
    · exact hK.row HK1.out HK2.out u hu
    · rw [List.mem_singleton.1 hu]
      intro A n c e _ b o e2
      injection e with e _ _
      have := HFR.out b o (e.trans e2)
      omega
  by_cases hq : (Value.slice A6 (row.length + 1) c6).ownBlock = none
  · exact .inl hq
  · refine .inr fun e => ?_
    have := hne g e
    have := HGL.out
    omega
end Go.Proofs.YtaieajfgcnaedaaDoor
