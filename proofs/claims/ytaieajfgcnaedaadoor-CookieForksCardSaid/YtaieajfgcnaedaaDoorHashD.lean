/-
  LAYER 5, WALKS: hash.New, Fork, Write: a hash of the bytes so far.
-/
import Derived.Test.YtaieajfgcnaedaaDoorHashC
import Derived.Test.YtaieajfgcnaedaaDoorZer
set_option linter.unusedVariables false
set_option linter.unusedSimpArgs false
namespace Go.Proofs.YtaieajfgcnaedaaDoor
open Go.RowKit

/-- Block g is a hash of the bytes m. -/
structure St (w : World) (g : Nat) (m : List Int) : Prop where
  ex : ∃ A c, IsH w g (absorb hInit m).1 (.slice A (absorb hInit m).2.length c) (m.length : Int) ∧ Rd w .u8 A (absorb hInit m).2 ∧ (A = none → c = 0) ∧ ∀ b o, A = some ⟨b, o, none⟩ → b ≠ g
  bytes : Bytes m
theorem absorb_nil (v : V8) : absorb v [] = (v, []) := absorb_lt (by simp)
theorem St.new {w : World} {g : Nat} (h : IsH w g hInit (.slice none 0 0) 0) : St w g [] :=
  ⟨⟨none, 0, by rw [absorb_nil]; exact h, by rw [absorb_nil]; exact Rd.nil _ _ _, fun _ => rfl, fun b o e => by cases e⟩, Bytes.nil⟩
theorem IsH.below {w w' : World} {g : Nat} {v : V8} {r : Value} {n : Int} (h : IsH w g v r n) (hb : Below w.heap.size w w') : IsH w' g v r n := by
  unfold IsH at h ⊢
  rw [hb.block g (lt_of_block h)]; exact h
theorem St.below {w w' : World} {g : Nat} {m : List Int} (h : St w g m) (hb : Below w.heap.size w w') : St w' g m := by
  obtain ⟨A, c, h1, h2, h3, h4⟩ := h.ex
  exact ⟨⟨A, c, h1.below hb, h2.below hb, h3, h4⟩, h.bytes⟩
theorem Tab.kept {w w' : World} (h : Tab w) {g : Nat} (hg : w.grownBy w' (some g)) (h0 : g ≠ 0) : Tab w' := ⟨Nat.lt_of_lt_of_le h.1 hg.size, fun i hi => hg.cell (h.2 i hi) (fun e => h0 (Option.some.inj e).symm)⟩
theorem St.lt {w : World} {g : Nat} {m : List Int} (h : St w g m) : g < w.heap.size := by
  obtain ⟨A, c, h1, _⟩ := h.ex
  exact lt_of_block h1
theorem Rd.kept' {w w' : World} {k : IntKind} {A : Option Addr} {xs : List Int} {row : Option Nat} (h : Rd w k A xs) (hg : w.grownBy w' row) (hne : 0 < xs.length → ∀ b o, A = some ⟨b, o, none⟩ → some b ≠ row) : Rd w' k A xs :=
  ⟨h.len, fun j hj => by
    obtain ⟨b, o, rfl, hlt, hc⟩ := h.at_ j hj
    exact ⟨b, o, rfl, Nat.lt_of_lt_of_le hlt hg.size, hg.cell hc (hne (by omega) b o rfl)⟩⟩
theorem Own.cap' {w : World} {base : Nat} {e : TypeId} {k : IntKind} {A : Option Addr} {n c : Nat} {xs : List Int} (h : Own w base e k (.slice A n c) xs) : n ≤ c ∧ c ≤ maxLen := by
  rcases h.2 with ⟨h', h0⟩ | ⟨g', cap', cur, h', _, _, h1, h2, _⟩
  · injection h' with _ a b; subst a b; exact ⟨Nat.le_refl _, by simp [maxLen]⟩
  · injection h' with a1 a b
    rw [a, b]; exact ⟨h1, h2⟩
theorem new_calls (w : World) : Calls Tryd.prog 33 #[] w fun e w' => e = .returned (.pointer (some ⟨w.heap.size, 0, none⟩)) ∧ IsH w' w.heap.size hInit (.slice none 0 0) 0 ∧ Below w.heap.size w w' := by
  go_enter Tryd.func33, Tryd.ntmps33
  go_wp2
  go_ret
  exact ⟨rfl, heap_alloc_new _ _, (Below.refl _ _).alloc (Nat.le_refl _) _⟩
set_option maxHeartbeats 1600000 in
theorem fork_calls (g : Nat) (m : List Int) (w : World) (hS : St w g m) : Calls Tryd.prog 22 #[.pointer (some ⟨g, 0, none⟩)] w fun e w' => ∃ f, e = .returned (.pointer (some ⟨f, 0, none⟩)) ∧ w.heap.size ≤ f ∧ St w' f m ∧ Below w.heap.size w w' := by
  obtain ⟨A, c, h1, h2, h3, h4⟩ := hS.ex
  have HB := hid hS.bytes
  have hlen := (absorb_rest m.length hInit m (Nat.le_refl _)).1
  have hgl := lt_of_block h1
  have HE : Box (∀ rs v, (absorb hInit m) = (v, rs) → True) := ⟨fun _ _ _ => trivial⟩
  obtain ⟨r, hr⟩ : ∃ r, r = (absorb hInit m).2 := ⟨_, rfl⟩
  obtain ⟨v, hv⟩ : ∃ v, v = (absorb hInit m).1 := ⟨_, rfl⟩
  rw [← hr] at hlen h1 h2
  rw [← hv] at h1
  have HR := hid hr; have HV : Box (v = (absorb hInit m).1) := ⟨hv⟩
  have H1 := hid h1; have H2 := hid h2; have H3 := hid h3; have H4 := hid h4
  clear hr hv h1 h2 h3 h4 hS HE
  have x0 : w.cell? ⟨g, 0, none⟩ = some (.int .u32 (uw v.a)) := cellOf H1.out rfl
  have x1 : w.cell? ⟨g, 1, none⟩ = some (.int .u32 (uw v.b)) := cellOf H1.out rfl
  have x2 : w.cell? ⟨g, 2, none⟩ = some (.int .u32 (uw v.c)) := cellOf H1.out rfl
  have x3 : w.cell? ⟨g, 3, none⟩ = some (.int .u32 (uw v.d)) := cellOf H1.out rfl
  have x4 : w.cell? ⟨g, 4, none⟩ = some (.int .u32 (uw v.e)) := cellOf H1.out rfl
  have x5 : w.cell? ⟨g, 5, none⟩ = some (.int .u32 (uw v.f)) := cellOf H1.out rfl
  have x6 : w.cell? ⟨g, 6, none⟩ = some (.int .u32 (uw v.g)) := cellOf H1.out rfl
  have x7 : w.cell? ⟨g, 7, none⟩ = some (.int .u32 (uw v.h)) := cellOf H1.out rfl
  have x8 : w.cell? ⟨g, 8, none⟩ = some (.slice A r.length c) := cellOf H1.out rfl
  have x9 : w.cell? ⟨g, 9, none⟩ = some (.int .u64 m.length) := cellOf H1.out rfl
  go_enter Tryd.func22, Tryd.ntmps22
  go_wp2_with (go_at_call 38; refine hold ?_)
  have hF0 : (w.alloc (.cells #[.int .u32 (uw v.a), .int .u32 (uw v.b), .int .u32 (uw v.c), .int .u32 (uw v.d), .int .u32 (uw v.e), .int .u32 (uw v.f), .int .u32 (uw v.g), .int .u32 (uw v.h), .slice A r.length c, .int .u64 m.length] 74)).heap[w.heap.size]? = some (.cells #[.int .u32 (uw v.a), .int .u32 (uw v.b), .int .u32 (uw v.c), .int .u32 (uw v.d), .int .u32 (uw v.e), .int .u32 (uw v.f), .int .u32 (uw v.g), .int .u32 (uw v.h), .slice A r.length c, .int .u64 m.length] 74 (0, 0)) := heap_alloc_new _ _
  have hB0 : Below w.heap.size w (w.alloc (.cells #[.int .u32 (uw v.a), .int .u32 (uw v.b), .int .u32 (uw v.c), .int .u32 (uw v.d), .int .u32 (uw v.e), .int .u32 (uw v.f), .int .u32 (uw v.g), .int .u32 (uw v.h), .slice A r.length c, .int .u64 m.length] 74)) := (Below.refl _ _).alloc (Nat.le_refl _) _
  have HF0 := hid hF0; have HB0 := hid hB0
  clear hF0 hB0
  clear x0 x1 x2 x3 x4 x5 x6 x7 x8 x9
  generalize w.alloc (.cells #[.int .u32 (uw v.a), .int .u32 (uw v.b), .int .u32 (uw v.c), .int .u32 (uw v.d), .int .u32 (uw v.e), .int .u32 (uw v.f), .int .u32 (uw v.g), .int .u32 (uw v.h), .slice A r.length c, .int .u64 m.length] 74) = w1 at *
  refine hid ?_
  have hlt1 := lt_of_block HF0.out
  refine Calls.mono (clone_calls c _ A r rfl w1 (H2.out.below HB0.out) H3.out (by omega)) ?_
  rintro e w2 ⟨vv, rfl, ho, hb⟩
  have HO := hid ho; have HBB := hid hb
  have HF : Hid (w2.heap[w.heap.size]? = _) := hid ((hb.block _ hlt1).trans HF0.out)
  have y8 : w2.cell? ⟨w.heap.size, 8, none⟩ = some (.slice A r.length c) := cellOf HF.out rfl
  have yf : w2.frozen? ⟨w.heap.size, 8, none⟩ = false := frozen_of_row _ _ _ _ _ HF.out
  clear ho hb
  obtain ⟨A', c', rfl, hA', hR', hb'⟩ := HO.out.rd (by omega)
  have HA' := hid hA'; have HR' := hid hR'; have Hb' := hid hb'
  clear hA' hR' hb'
  go_wp2
  go_ret
  have hB2 : Below w.heap.size w w2 := below_then HB0.out HBB.out
  have h2 := hs (i := 8) (v := .slice A' r.length c') HF.out
  refine ⟨_, rfl, Nat.le_refl _, ⟨⟨A', c', ?_, ?_, HA'.out, fun b o e => ?_⟩, HB.out⟩, hB2.setCell (Nat.le_refl _) _⟩
  · rw [← HR.out, ← HV.out]; exact h2
  · rw [← HR.out]
    exact HR'.out.kept (grown_set _ _ _ _) (fun b o e he => by injection he with he; have := (Hb'.out b o e).1; omega)
  · have := (Hb'.out b o e).1; omega
theorem Rd.take {w : World} {k : IntKind} {A : Option Addr} {xs : List Int} (h : Rd w k A xs) (t : Nat) : Rd w k A (xs.take t) :=
  ⟨by have := h.len; simp; omega, fun j hj => by
    have hj' : j < xs.length := by simp at hj; omega
    have hjt : j < t := by simp at hj; omega
    obtain ⟨b, o, e, hl, hc⟩ := h.at_ j hj'
    refine ⟨b, o, e, hl, ?_⟩
    rw [hc]; simp [List.getD_eq_getElem?_getD, hjt]⟩
theorem Rd.drop {w : World} {k : IntKind} {b o : Nat} {xs : List Int} (h : Rd w k (some ⟨b, o, none⟩) xs) (t : Nat) : Rd w k (some ⟨b, o + t, none⟩) (xs.drop t) :=
  ⟨by have := h.len; simp; omega, fun j hj => by
    have hj' : t + j < xs.length := by simp at hj; omega
    obtain ⟨b', o', e, hl, hc⟩ := h.at_ (t + j) hj'
    injection e with e; injection e with e1 e2 e3; subst e1 e2
    refine ⟨b, o + t, rfl, hl, ?_⟩
    rw [show o + t + j = o + (t + j) by omega, hc]; simp [List.getD_eq_getElem?_getD]⟩
theorem bytes_take {xs : List Int} (h : Bytes xs) (t : Nat) : Bytes (xs.take t) := h.sub fun y hy => List.mem_of_mem_take hy
theorem bytes_drop {xs : List Int} (h : Bytes xs) (t : Nat) : Bytes (xs.drop t) := h.sub fun y hy => List.mem_of_mem_drop hy
set_option maxHeartbeats 3200000 in
theorem write_calls (g c n : Nat) (A : Option Addr) (m ys : List Int) (hn : ys.length = n) (w : World) (hT : Tab w) (hS : St w g m) (hg0 : g ≠ 0) (hR : Rd w .u8 A ys) (hA : A = none → c = 0) (hAg : 0 < n → ∀ b o, A = some ⟨b, o, none⟩ → b ≠ g) (hb : Bytes ys) (hm : m.length + n ≤ 140737488355000) :
    Calls Tryd.prog 20 #[.pointer (some ⟨g, 0, none⟩), .slice A n c] w fun e w' => e = .returned (.int .i64 0) ∧ St w' g (m ++ ys) ∧ w.grownBy w' (some g) := by
  obtain ⟨A0, c0, h1, h2, h3, h4⟩ := hS.ex
  have HB := hid hS.bytes
  have hlen := (absorb_rest m.length hInit m (Nat.le_refl _)).1
  have HRB : Hid (Bytes (absorb hInit m).2) := hid (hS.bytes.sub (absorb_rest m.length hInit m (Nat.le_refl _)).2.2.2)
  have hgl := lt_of_block h1
  have HAB : Box (absorb hInit (m ++ ys) = absorb (absorb hInit m).1 ((absorb hInit m).2 ++ ys)) := ⟨absorb_append ys m.length hInit m (Nat.le_refl _)⟩
  generalize (absorb hInit m).2 = r at *
  generalize (absorb hInit m).1 = v at *
  have H1 := hid h1; have H2 := hid h2; have H3 := hid h3; have H4 := hid h4
  have HT := hid hT; have HR := hid hR; have HA := hid hA; have HAg := hid hAg; have HBy := hid hb; have HN := hid hn
  clear h1 h2 h3 h4 hS hT hR hA hAg hb hn
  have x9 : w.cell? ⟨g, 9, none⟩ = some (.int .u64 m.length) := cellOf H1.out rfl
  have f9 : w.frozen? ⟨g, 9, none⟩ = false := frozen_of_row _ _ _ _ _ H1.out
  have x8 : (w.setCell ⟨g, 9, none⟩ (.int .u64 ((m.length : Int) + n))).cell? ⟨g, 8, none⟩ = some (.slice A0 r.length c0) := cellOf (hs H1.out) rfl
  have e1 : IntKind.u64.wrap (n : Int) = (n : Int) := by rw [IntKind.wrap_u64]; omega
  have e2 : IntKind.u64.wrap ((m.length : Int) + (n : Int)) = (m.length : Int) + n := by rw [IntKind.wrap_u64]; omega
  go_enter Tryd.func20, Tryd.ntmps20
  go_wp2_with (go_at_call 38; refine hold ?_)
  have hg1 : w.grownBy (w.setCell ⟨g, 9, none⟩ (.int .u64 ((m.length : Int) + n))) (some g) := grown_set _ _ _ _
  have HI1 : Hid (IsH (w.setCell ⟨g, 9, none⟩ (.int .u64 ((m.length : Int) + n))) g v (.slice A0 r.length c0) ((m.length : Int) + n)) := hid (hs H1.out)
  have HR1 := hid (HR.out.kept' hg1 (fun hp b o e he => HAg.out (by rw [← HN.out]; exact hp) b o e (Option.some.inj he)))
  have H21 := hid (H2.out.kept hg1 (fun b o e he => H4.out b o e (Option.some.inj he)))
  have HT1 := hid (HT.out.kept hg1 hg0)
  have HG1 := hid hg1
  clear x9 f9 x8 e1 e2 hg1 HT HR H1 H2
  generalize w.setCell ⟨g, 9, none⟩ (.int .u64 ((m.length : Int) + n)) = w1 at *
  refine hid ?_
  refine Calls.mono (clone_calls c0 _ A0 r rfl w1 H21.out H3.out (by omega)) ?_
  rintro e w2 ⟨v2, rfl, ho, hb2⟩
  have HO2 := hid ho
  have HB2 := hid hb2
  clear ho hb2
  go_wp2_with (at_builtin; refine hold ?_)
  refine hid ?_
  refine wpList_app2 rfl _ _ 22 5 .u8 1 rfl elemB w1.heap.size v2 r rfl HO2.out A c n ys rfl HN.out HA.out (HR1.out.below HB2.out) (by omega) (by simp [maxLen]; omega) HB2.out.size ?_
  intro v3 w3 ho3 hg3 hat3
  have hb3 : Below w1.heap.size w1 w3 := below_own HB2.out hg3 (fun q hq => (HO2.out.lt q hq).1)
  have hl3 : (r ++ ys).length ≤ 140737488355328 := by rw [List.length_append, HN.out]; omega
  obtain ⟨A3, c3, rfl, hA3, hR3, hb3'⟩ := ho3.rd hl3
  have hc3 := ho3.cap'
  have HI3 := hid (HI1.out.below hb3)
  have HG3 := hid (grown_trans HG1.out (grown_below (row := some g) hb3))
  have HT3 := hid (HT1.out.kept (grown_below (row := some g) hb3) hg0)
  have hsz := HG1.out.size
  have HRY : Hid (Bytes (r ++ ys)) := hid (HRB.out.append HBy.out)
  have HA3 := hid hA3; have HR3 := hid hR3; have HB3 := hid hb3'; have HC3 := hid hc3
  have HBM : Hid (Bytes (m ++ ys)) := hid (HB.out.append HBy.out)
  clear hA3 hR3 hb3' hc3 ho3 hg3 hat3 hb3 HO2 HB2 HR1 H21 HT1 HG1 HI1 HA HAg HBy HRB HB H3 H4
  obtain ⟨L0, hL0⟩ : ∃ L0, L0 = r ++ ys := ⟨_, rfl⟩
  have HL0 : Box (r ++ ys = L0) := ⟨hL0.symm⟩
  rw [← hL0] at hl3 HR3 HRY HC3 ⊢
  clear hL0
  go_wp2
  go_loopw [5] (fun s5 w' => ∃ (L : List Int) (V : V8) (A' : Option Addr) (c' : Nat), s5 = .slice A' L.length c' ∧ L.length ≤ c' ∧ c' ≤ maxLen ∧ (A' = none → c' = 0) ∧ Rd w' .u8 A' L ∧ (∀ b o, A' = some ⟨b, o, none⟩ → w.heap.size ≤ b) ∧ Bytes L ∧ absorb V L = absorb v L0 ∧ IsH w' g V (.slice A0 r.length c0) ((m.length : Int) + n) ∧ w.grownBy w' (some g) ∧ Tab w') (fun s5 _ => match s5 with | .slice _ l _ => l | _ => 0)
  case atStart => exact ⟨L0, v, A3, c3, rfl, HC3.out.1, HC3.out.2, HA3.out, HR3.out, fun b o e => by have := (HB3.out b o e).1; omega, HRY.out, rfl, HI3.out, HG3.out, HT3.out⟩
  case round =>
    obtain ⟨L, V, A', c', rfl, hLc, hcm, hA', hR', hb', hby, habs, hI, hG, hTb⟩ := hrel
    have HA' := hid hA'; have HR' := hid hR'; have Hb' := hid hb'; have HBY := hid hby; have HABS : Box (absorb V L = absorb v L0) := ⟨habs⟩; have HI := hid hI; have HG := hid hG; have HTb := hid hTb
    have HCM : Hid (c' ≤ maxLen) := hid hcm
    clear hA' hR' hb' hby habs hI hG hTb hcm
    clear HI3 HG3 HT3 HA3 HR3 HB3 HC3
    obtain ⟨l, hl⟩ : ∃ l, l = L.length := ⟨_, rfl⟩
    rw [← hl] at hLc ⊢
    have HL := hid hl
    clear hl
    by_cases h64 : 64 ≤ l
    · obtain ⟨b, o, rfl, hblt⟩ := HR'.out.form 0 (by rw [← HL.out]; omega)
      have hge : (64 : Int) ≤ (l : Int) := by omega
      have hge2 : (64 : Int) ≤ (c' : Int) := by omega
      have hcm : c' ≤ 9223372036854775807 := HCM.out
      have hbg : b ≠ g := by have := Hb'.out b o rfl; omega
      go_wp2_with (go_at_call 39; refine hold ?_)
      refine hid ?_
      refine Calls.mono (round_calls g c' (some ⟨b, o, none⟩) V (.slice A0 r.length c0) ((m.length : Int) + n) (L.take 64) (by have := HL.out; simp; omega) wr HTb.out HI.out hg0 (HR'.out.take 64) (bytes_take HBY.out 64) (by omega) hcm) ?_
      rintro e w4 ⟨rfl, hI4, hG4⟩
      have HI4 := hid hI4; have HG4 := hid hG4
      have HR4 : Hid (Rd w4 .u8 (some ⟨b, o, none⟩) L) := hid (HR'.out.kept hG4 (fun b' o' e he => by injection e with e; injection e with e1 e2; subst e1; injection he with he; exact hbg he))
      have HT4 := hid (HTb.out.kept hG4 hg0)
      have HAB4 : Box (absorb (compress V (L.take 64)) (L.drop 64) = absorb v L0) := ⟨by rw [← HABS.out, absorb_ge (xs := L) (by rw [← HL.out]; exact h64)]⟩
      have HBD := hid (bytes_drop HBY.out 64)
      have HLD : Hid ((L.drop 64).length = l - 64) := hid (by have := HL.out; simp; omega)
      have HRD := hid (HR4.out.drop 64)
      clear hI4 hG4 HI HABS HBY HTb HR'
      by_cases hcc : c' = 64
      · subst hcc
        obtain rfl : l = 64 := by omega
        have hL0 : L.drop 64 = [] := List.drop_eq_nil_of_le (by rw [← HL.out]; exact Nat.le_refl _)
        go_wp2
        go_roundw
        case rel =>
          refine ⟨L.drop 64, compress V (L.take 64), some ⟨b, o, none⟩, 0, by rw [HLD.out], by rw [HLD.out]; omega, by simp [maxLen], fun h => by simp at h, by rw [hL0]; exact Rd.nil _ _ _, fun b' o' e => ?_, HBD.out, HAB4.out, HI4.out, grown_trans HG.out HG4.out, HT4.out⟩
          injection e with e; injection e with e1 e2; subst e1; exact Hb'.out _ _ rfl
        case measure => simp
      · go_wp2
        go_roundw
        case rel =>
          refine ⟨L.drop 64, compress V (L.take 64), some ⟨b, o + 64, none⟩, c' - 64, by rw [HLD.out], by rw [HLD.out]; omega, by have := HCM.out; omega, fun h => by simp at h, HRD.out, fun b' o' e => ?_, HBD.out, HAB4.out, HI4.out, grown_trans HG.out HG4.out, HT4.out⟩
          injection e with e; injection e with e1 e2; subst e1; exact Hb'.out _ _ rfl
        case measure => simp; omega
    · have hnge : ¬ (64 : Int) ≤ (l : Int) := by omega
      go_wp2_with (go_at_call 38; refine hold ?_)
      refine hid ?_
      refine Calls.mono (clone_calls c' l A' L HL.out.symm wr HR'.out HA'.out (by omega)) ?_
      rintro e w5 ⟨v5, rfl, ho5, hb5⟩
      obtain ⟨A5, c5, rfl, hA5, hR5, hb5'⟩ := ho5.rd (by have := HL.out; omega)
      rw [← HL.out]
      have HI5 := hid (HI.out.below hb5)
      have x8 : w5.cell? ⟨g, 8, none⟩ = some (.slice A0 r.length c0) := cellOf HI5.out rfl
      have f8 : w5.frozen? ⟨g, 8, none⟩ = false := frozen_of_row _ _ _ _ _ HI5.out
      have HG5 := hid (grown_trans HG.out (grown_below (row := some g) hb5))
      have HA5 := hid hA5; have HR5 := hid hR5
      have HB5 : Hid (∀ b o, A5 = some ⟨b, o, none⟩ → b ≠ g) := hid (fun b o e => by have := (hb5' b o e).1; have := HG.out.size; omega)
      clear hA5 hR5 hb5' ho5 hb5
      go_wp2
      go_ret
      have h2 := hs (i := 8) (v := .slice A5 l c5) HI5.out
      have hab : absorb hInit (m ++ ys) = (V, L) := by rw [HAB.out, HL0.out, ← HABS.out]; exact absorb_lt (by rw [← HL.out]; exact h64)
      refine ⟨rfl, ⟨⟨A5, c5, ?_, ?_, HA5.out, HB5.out⟩, HBM.out⟩, grown_trans HG5.out (grown_set _ _ _ _)⟩
      · rw [hab]
        have e : (((m ++ ys).length : Nat) : Int) = (m.length : Int) + n := by rw [List.length_append, HN.out]; omega
        rw [e, ← HL.out]
        exact h2
      · rw [hab]
        exact HR5.out.kept (grown_set _ _ _ _) (fun b o e he => HB5.out b o e (Option.some.inj he))
end Go.Proofs.YtaieajfgcnaedaaDoor
