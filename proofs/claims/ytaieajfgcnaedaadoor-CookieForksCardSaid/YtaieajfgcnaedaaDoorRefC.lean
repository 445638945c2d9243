/-
  THE REFERENCE OF LAYER 6, WALKS: keys as all secrets that were ever current: New, Turn.
-/
import Derived.Test.YtaieajfgcnaedaaDoorRefB
import Derived.Test.YtaieajfgcnaedaaDoorAppV
set_option linter.unusedVariables false
set_option linter.unusedSimpArgs false
namespace Go.Proofs.YtaieajfgcnaedaaDoor
open Go.RowKit

theorem elemSl : ElemV Tryd.prog 84 22 (.slice none 0 0) 24 := ElemV.mk' Tryd.underlying84 (by kernel_rfl)
/-- A value that is a slice of the bytes xs. -/
def IsSl (w : World) (v : Value) (xs : List Int) : Prop := ∃ A c, v = .slice A xs.length c ∧ Rd w .u8 A xs ∧ (A = none → c = 0) ∧ Bytes xs ∧ xs.length ≤ 140737488351232
theorem IsSl.below {w w' : World} {v : Value} {xs : List Int} (h : IsSl w v xs) (hb : Below w.heap.size w w') : IsSl w' v xs := by
  obtain ⟨A, c, h1, h2, h3, h4, h5⟩ := h
  exact ⟨A, c, h1, h2.below hb, h3, h4, h5⟩
theorem IsSl.one {w : World} {v : Value} {xs : List Int} (h : IsSl w v xs) : v.oneCell' = true := by
  obtain ⟨A, c, rfl, _⟩ := h
  rfl
/-- A row of such slices. -/
def Sls (w : World) : List Value → List (List Int) → Prop
  | [], [] => True
  | v :: vs, x :: xs => IsSl w v x ∧ Sls w vs xs
  | _, _ => False
theorem Sls.below {w w' : World} (hb : Below w.heap.size w w') : ∀ {vs : List Value} {L : List (List Int)}, Sls w vs L → Sls w' vs L
  | [], [], _ => trivial
  | _ :: _, _ :: _, h => ⟨h.1.below hb, h.2.below hb⟩
theorem Sls.len {w : World} : ∀ {vs : List Value} {L : List (List Int)}, Sls w vs L → vs.length = L.length
  | [], [], _ => rfl
  | _ :: _, _ :: _, h => by simp [Sls.len h.2]
theorem Sls.one {w : World} : ∀ {vs : List Value} {L : List (List Int)}, Sls w vs L → ∀ u ∈ vs, u.oneCell' = true
  | [], [], _, u, hu => by simp at hu
  | v :: vs, _ :: _, h, u, hu => by
    rcases List.mem_cons.1 hu with rfl | hu
    · exact h.1.one
    · exact Sls.one h.2 u hu
theorem Sls.append {w : World} : ∀ {vs us : List Value} {L M : List (List Int)}, Sls w vs L → Sls w us M → Sls w (vs ++ us) (L ++ M)
  | [], _, [], _, _, k => k
  | _ :: _, _, _ :: _, _, h, k => ⟨h.1, Sls.append h.2 k⟩
theorem Sls.at_ {w : World} : ∀ {vs : List Value} {L : List (List Int)}, Sls w vs L → ∀ i (hi : i < L.length), ∃ v, vs[i]? = some v ∧ IsSl w v (L[i]'hi)
  | [], [], _, i, hi => by simp at hi
  | v :: vs, x :: L, h, 0, hi => ⟨v, rfl, h.1⟩
  | v :: vs, x :: L, h, i + 1, hi => by
    obtain ⟨u, hu, hs⟩ := Sls.at_ h.2 i (by simpa using hi)
    exact ⟨u, by simpa using hu, by simpa using hs⟩
/-- A row that is read as bytes is no block of the reference's keys. -/
theorem Rd.off1 {w w' : World} {A : Option Addr} {xs : List Int} (h : Rd w .u8 A xs) {g n c : Nat} {A1 : Option Addr} {t : TypeId} (hg : w.heap[g]? = some (.cells #[.slice A1 n c] t (0, 0)))
    (hw : w.grownBy w' (some g)) : Rd w' .u8 A xs := by
  cases xs with
  | nil => exact Rd.nil _ _ _
  | cons x xs =>
    refine h.kept hw fun b o e => ?_
    subst e
    intro e
    injection e with e
    subst e
    have h0 := h.cell 0 (by simp)
    simp only [World.cell?, hg] at h0
    simp at h0
    match o, h0 with
    | 0, h0 => simp at h0
    | o + 1, h0 => simp at h0
theorem IsSl.off1 {w w' : World} {v : Value} {xs : List Int} (h : IsSl w v xs) {g n c : Nat} {A1 : Option Addr} {t : TypeId} (hg : w.heap[g]? = some (.cells #[.slice A1 n c] t (0, 0))) (hw : w.grownBy w' (some g)) : IsSl w' v xs := by
  obtain ⟨A, c, h1, h2, h3, h4, h5⟩ := h
  exact ⟨A, c, h1, h2.off1 hg hw, h3, h4, h5⟩
theorem Sls.off1 {w w' : World} {g n c : Nat} {A1 : Option Addr} {t : TypeId} (hg : w.heap[g]? = some (.cells #[.slice A1 n c] t (0, 0))) (hw : w.grownBy w' (some g)) : ∀ {vs : List Value} {L : List (List Int)}, Sls w vs L → Sls w' vs L
  | [], [], _ => trivial
  | _ :: _, _ :: _, h => ⟨h.1.off1 hg hw, Sls.off1 hg hw h.2⟩
/-- Block g is the reference's keys. -/
structure RSt (w : World) (g : Nat) (L : List (List Int)) : Prop where
  ex : ∃ v row base, w.heap[g]? = some (.cells #[v] 86 (0, 0)) ∧ OwnV w base 22 v row ∧ Sls w row L
theorem RSt.below {w w' : World} {g : Nat} {L : List (List Int)} (h : RSt w g L) (hb : Below w.heap.size w w') : RSt w' g L := by
  obtain ⟨v, row, base, h1, h2, h3⟩ := h.ex
  exact ⟨⟨v, row, base, (hb.block _ (lt_of_block h1)).trans h1, h2.below hb, h3.below hb⟩⟩
theorem RSt.lt {w : World} {g : Nat} {L : List (List Int)} (h : RSt w g L) : g < w.heap.size := by
  obtain ⟨v, row, base, h1, _⟩ := h.ex
  exact lt_of_block h1
set_option maxHeartbeats 1600000 in
theorem rknew_calls (c n : Nat) (A : Option Addr) (xs : List Int) (hn : xs.length = n) (w : World) (hR : Rd w .u8 A xs) (hA : A = none → c = 0) (hb : Bytes xs) (hl : n ≤ 140737488351232) :
    Calls Tryd.prog 46 #[.slice A n c] w fun e w' => ∃ g, e = .returned (.pointer (some ⟨g, 0, none⟩)) ∧ w.heap.size ≤ g ∧ RSt w' g [xs] ∧ Below w.heap.size w w' := by
  have HR := hid hR; have HA := hid hA; have HB := hid hb; have HN := hid hn
  clear hR hA hb hn
  go_enter Tryd.func46, Tryd.ntmps46
  go_wp2_with (at_builtin; refine hold ?_)
  refine hid ?_
  refine wpList_app2 rfl _ _ 22 5 .u8 1 rfl elemB w.heap.size (.slice (some ⟨w.heap.size, 0, none⟩) 0 0) [] rfl (Own.lit w 5 .u8 w.heap.size (Nat.le_refl _) [] #[] 0 rfl rfl (by decide)) A c n xs rfl HN.out HA.out (HR.out.below ((Below.refl _ _).alloc (Nat.le_refl _) _)) (by simp; omega) (by simp [maxLen]; omega) (by simp) ?_
  intro v3 w3 ho3 hg3 hat3
  rw [List.nil_append] at ho3
  have hb3 : Below w.heap.size w w3 := ((Below.refl w.heap.size w).alloc (Nat.le_refl _) _).grown hg3 (by simp) (fun q hq => Nat.le_of_eq (Option.some.inj hq))
  obtain ⟨A3, c3, rfl, hA3, hR3, hb4⟩ := ho3.rd (by rw [HN.out]; omega)
  have H1 := hid (show IsSl w3 (.slice A3 xs.length c3) xs from ⟨A3, c3, rfl, hR3, hA3, HB.out, by rw [HN.out]; exact hl⟩)
  have HB3 := hid hb3
  clear ho3 hg3 hat3 hb3 hA3 hR3 hb4
  go_wp2
  go_ret
  have hBa : Below w3.heap.size w3 (w3.alloc (.cells #[.slice A3 xs.length c3] 22)) := (Below.refl _ _).alloc (Nat.le_refl _) _
  have hO : OwnV (w3.alloc (.cells #[.slice A3 xs.length c3] 22)) w3.heap.size 22 (.slice (some ⟨w3.heap.size, 0, none⟩) 1 1) [.slice A3 xs.length c3] := OwnV.lit w3 22 w3.heap.size (Nat.le_refl _) [.slice A3 xs.length c3] #[.slice A3 xs.length c3] 1 rfl rfl (by simp [maxLen])
  have hS : (w3.alloc (.cells #[.slice A3 xs.length c3] 22)).heap.size = w3.heap.size + 1 := by simp
  generalize w3.alloc (.cells #[.slice A3 xs.length c3] 22) = wa at *
  have hB2 : Below wa.heap.size wa (wa.alloc (.cells #[.slice (some ⟨w3.heap.size, 0, none⟩) 1 1] 86)) := (Below.refl _ _).alloc (Nat.le_refl _) _
  have hg : (wa.alloc (.cells #[.slice (some ⟨w3.heap.size, 0, none⟩) 1 1] 86)).heap[w3.heap.size + 1]? = some (.cells #[.slice (some ⟨w3.heap.size, 0, none⟩) 1 1] 86 (0, 0)) := by rw [← hS]; exact heap_alloc_new _ _
  exact ⟨w3.heap.size + 1, rfl, by have := HB3.out.size; omega, ⟨⟨_, [.slice A3 xs.length c3], _, hg, hO.below hB2, ⟨(H1.out.below hBa).below hB2, trivial⟩⟩⟩, below_then HB3.out (below_then hBa hB2)⟩
set_option maxHeartbeats 6400000 in
set_option maxRecDepth 100000 in
theorem rkturn_calls (g c n : Nat) (A : Option Addr) (xs : List Int) (L : List (List Int)) (hL : L.length ≤ 1000) (hn : xs.length = n) (w : World) (hK : RSt w g L) (hR : Rd w .u8 A xs) (hA : A = none → c = 0) (hb : Bytes xs) (hl : n ≤ 140737488351232) :
    Calls Tryd.prog 47 #[.pointer (some ⟨g, 0, none⟩), .slice A n c] w fun e w' => e = .returned (.int .i64 0) ∧ RSt w' g (L ++ [xs]) ∧ w.grownBy w' (some g) := by
  obtain ⟨v, row, base, k1, k2, k3⟩ := hK.ex
  obtain ⟨A1, c1, rfl, hA1, hV1, _⟩ := k2.rd
  have hrl := Sls.len k3
  have x0 : (w.alloc (.cells #[] 22)).cell? ⟨g, 0, none⟩ = some (.slice A1 row.length c1) := (((Below.refl w.heap.size w).alloc (Nat.le_refl _) _).cell (p := ⟨g, 0, none⟩) hK.lt).trans (cellOf k1 rfl)
  have HK1 := hid k1; have HK3 := hid k3; have HV1 := hid hV1; have HA1 := hid hA1; have HRL := hid hrl
  have HR := hid hR; have HA := hid hA; have HB := hid hb; have HN := hid hn; have HGL := hid hK.lt
  clear hR hA hb hn k1 k2 k3 hA1 hV1 hrl hK
  go_enter Tryd.func47, Tryd.ntmps47
  go_wp2_with (at_builtin; refine hold ?_)
  refine hid ?_
  clear x0
  refine wpList_appV rfl (.tmp 8) (.tmp 12) 84 22 (.slice none 0 0) rfl 24 rfl elemSl w.heap.size (.slice (some ⟨w.heap.size, 0, none⟩) 0 0) [] rfl (OwnV.lit w 22 w.heap.size (Nat.le_refl _) [] #[] 0 rfl rfl (by decide)) A1 c1 row.length row rfl rfl HA1.out (HV1.out.below ((Below.refl _ _).alloc (Nat.le_refl _) _)) (Sls.one HK3.out) (by have := HRL.out; simp; omega) (by have := HRL.out; simp [maxLen]; omega) (by simp) ?_
  intro v3 w3 ho3 hg3 hat3
  rw [List.nil_append] at ho3
  have hb3 : Below w.heap.size w w3 := ((Below.refl w.heap.size w).alloc (Nat.le_refl _) _).grown hg3 (by simp) (fun q hq => Nat.le_of_eq (Option.some.inj hq))
  have HO3 := hid ho3; have HB3 := hid hb3
  obtain ⟨A3, c3, rfl, hA3, hV3, _⟩ := ho3.rd
  clear ho3 hg3 hat3 hb3 hA3 hV3
  go_wp2_with (at_builtin; refine hold ?_)
  refine hid ?_
  refine wpList_app2 rfl (.tmp 14) (.tmp 15) 22 5 .u8 1 rfl elemB w3.heap.size (.slice (some ⟨w3.heap.size, 0, none⟩) 0 0) [] rfl (Own.lit w3 5 .u8 w3.heap.size (Nat.le_refl _) [] #[] 0 rfl rfl (by decide)) A c n xs rfl HN.out HA.out ((HR.out.below HB3.out).below ((Below.refl _ _).alloc (Nat.le_refl _) _)) (by simp; omega) (by simp [maxLen]; omega) (by simp) ?_
  intro v4 w4 ho4 hg4 hat4
  rw [List.nil_append] at ho4
  have hb4 : Below w3.heap.size w3 w4 := ((Below.refl w3.heap.size w3).alloc (Nat.le_refl _) _).grown hg4 (by simp) (fun q hq => Nat.le_of_eq (Option.some.inj hq))
  obtain ⟨A4, c4, rfl, hA4, hR4, hb4'⟩ := ho4.rd (by rw [HN.out]; omega)
  have H4 := hid (show Rd w4 .u8 A4 xs ∧ (A4 = none → c4 = 0) ∧ ∀ b o, A4 = some ⟨b, o, none⟩ → w3.heap.size ≤ b ∧ o = 0 from ⟨hR4, hA4, hb4'⟩)
  have HB4 := hid hb4
  clear ho4 hg4 hat4 hb4 hA4 hR4 hb4'
  go_wp2_with (at_builtin; refine hold ?_)
  refine hid ?_
  have hlit := OwnV.lit w4 22 w4.heap.size (Nat.le_refl _) [.slice A4 xs.length c4] #[.slice A4 xs.length c4] 1 rfl rfl (by simp [maxLen])
  obtain ⟨A5, c5, e5, _, hV5, _⟩ := hlit.rd
  simp only [Value.slice.injEq] at e5
  obtain ⟨rfl, hl1, rfl⟩ := e5
  clear hl1
  have hBa : Below w4.heap.size w4 (w4.alloc (.cells #[.slice A4 xs.length c4] 22)) := (Below.refl _ _).alloc (Nat.le_refl _) _
  have HBA := hid hBa; have HV5 := hid hV5
  clear hlit hBa hV5
  generalize w4.alloc (.cells #[.slice A4 xs.length c4] 22) = wa at *
  refine wpList_appV rfl (.tmp 13) (.tmp 17) 84 22 (.slice none 0 0) rfl 24 rfl elemSl w.heap.size (.slice A3 row.length c3) row rfl ((HO3.out.below HB4.out).below HBA.out) (some ⟨w4.heap.size, 0, none⟩) 1 1 [.slice A4 xs.length c4] rfl rfl (fun h => by simp at h) HV5.out (by simp [Value.oneCell']) (by have := HRL.out; omega) (by have := HRL.out; simp [maxLen]; omega) (by have := HB3.out.size; have := HB4.out.size; have := HBA.out.size; omega) ?_
  intro v5 w5 ho5 hg5 hat5
  have hb34 : Below w.heap.size w wa := HB3.out.trans ((HB4.out.mono HB3.out.size).trans (HBA.out.mono (Nat.le_trans HB3.out.size HB4.out.size)))
  have hlow : ∀ q, (Value.slice A3 row.length c3).ownBlock = some q → w.heap.size ≤ q ∧ q < w3.heap.size := fun q hq => HO3.out.lt q hq
  have hb5 : Below w.heap.size w w5 := hb34.grown hg5 hb34.size (fun q hq => (hlow q hq).1)
  have hR5 : Rd w5 .u8 A4 xs := (H4.out.1.below HBA.out).kept hg5 (fun b o e h => by
    have h1 := (H4.out.2.2 b o e).1
    have h2 := (hlow b h.symm).2
    omega)
  obtain ⟨A6, c6, rfl, hA6, hV6, hat6⟩ := ho5.rd
  have hgb : w5.heap[g]? = some (.cells #[.slice A1 row.length c1] 86 (0, 0)) := (hb5.block _ HGL.out).trans HK1.out
  have x1 : w5.cell? ⟨g, 0, none⟩ = some (.slice A1 row.length c1) := cellOf hgb rfl
  have f1 : w5.frozen? ⟨g, 0, none⟩ = false := frozen_of_row w5 g 0 _ _ hgb
  have hsl : Sls w5 (row ++ [.slice A4 xs.length c4]) (L ++ [xs]) := Sls.append (HK3.out.below hb5) ⟨⟨A4, c4, rfl, hR5, H4.out.2.1, HB.out, by rw [HN.out]; exact hl⟩, trivial⟩
  have HSL := hid hsl; have HGB := hid hgb; have HO5 := hid ho5; have HB5 := hid hb5
  clear hat6 hV6 hA6 hR5 hb34 hlow hb5 hg5 hat5 hsl hgb ho5 HV5 HBA HB4 H4 HB3 HO3
  have hn5 : (row ++ [Value.slice A4 xs.length c4]).length = row.length + 1 := by simp
  rw [hn5] at HO5 ⊢
  clear hn5
  go_wp2
  go_ret
  have hset := hs (i := 0) (v := Value.slice A6 (row.length + 1) c6) HGB.out
  have hgr := grown_set w5 g 0 (Value.slice A6 (row.length + 1) c6)
  have hne : ∀ q, (Value.slice A6 (row.length + 1) c6).ownBlock = some q → w.heap.size ≤ q := fun q hq => (HO5.out.lt q hq).1
  refine ⟨rfl, ⟨⟨_, _, _, hset, HO5.out.kept hgr ?_, HSL.out.off1 HGB.out hgr⟩⟩, grown_trans (grown_below HB5.out) hgr⟩
  by_cases hq : (Value.slice A6 (row.length + 1) c6).ownBlock = none
  · exact .inl hq
  · refine .inr fun e => ?_
    have := hne g e
    have := HGL.out
    omega
end Go.Proofs.YtaieajfgcnaedaaDoor
