/-
  LAYER 5, THE REFERENCE's WALKS: Mac.
-/
import Derived.Test.YtaieajfgcnaedaaDoorHashRD
set_option linter.unusedVariables false
set_option linter.unusedSimpArgs false
namespace Go.Proofs.YtaieajfgcnaedaaDoor
open Go.RowKit

theorem below_app {B : Nat} {w w' : World} {v : Value} (hg : w.grownBy w' v.ownBlock) (hb : ∀ q, v.ownBlock = some q → B ≤ q) (hB : B ≤ w.heap.size := by omega) : Below B w w' := (Below.refl B w).grown hg hB hb
theorem below_more {B C : Nat} {w w1 w2 : World} (h : Below B w w1) (k : Below C w1 w2) (hc : B ≤ C) : Below B w w2 := h.trans (k.mono hc)
theorem own_le {w : World} {base base' : Nat} {e : TypeId} {k : IntKind} {v : Value} {xs : List Int} (h : Own w base e k v xs) (hb : base' ≤ base) : Own w base' e k v xs :=
  ⟨h.1, h.2.elim .inl (fun ⟨g, c, cur, a, b, r⟩ => .inr ⟨g, c, cur, a, Nat.le_trans hb b, r⟩)⟩
theorem own_off {w : World} {base : Nat} {e : TypeId} {k : IntKind} {g o n c : Nat} {xs : List Int} (h : Own w base e k (.slice (some ⟨g, o, none⟩) n c) xs) : o = 0 := by
  rcases h.2 with ⟨h', _⟩ | ⟨g', c', cur, h', _⟩
  · cases h'
  · injection h' with h1; injection h1 with h1; injection h1
set_option maxHeartbeats 25600000 in
set_option maxRecDepth 100000 in
theorem rmac_calls (ck nk c n : Nat) (Ak A : Option Addr) (key bs : List Int) (hnk : key.length = nk) (hn : bs.length = n) (w : World) (hRk : Rd w .u8 Ak key) (hR : Rd w .u8 A bs) (hAk : Ak = none → ck = 0) (hA : A = none → c = 0) (hbk : Bytes key) (hb : Bytes bs) (hmk : nk ≤ 140737488353000) (hm : n ≤ 140737488353000) :
    Calls Tryd.prog 18 #[.slice Ak nk ck, .slice A n c] w fun e w' => e = .returned (.agg (((mac key bs).map (Value.int .u8)).toArray)) ∧ Below w.heap.size w w' := by
  have HRk := hid hRk; have HR := hid hR; have HAk := hid hAk; have HA := hid hA; have HBk := hid hbk; have HBb := hid hb; have HNk := hid hnk; have HN := hid hn
  clear hRk hR hAk hA hbk hb hnk hn
  go_enter Tryd.func18, Tryd.ntmps18
  go_wp2_with (at_builtin; refine hold ?_)
  have hO0 : (w.alloc (.cells #[Value.int IntKind.u8 0, Value.int IntKind.u8 0, Value.int IntKind.u8 0, Value.int IntKind.u8 0, Value.int IntKind.u8 0, Value.int IntKind.u8 0, Value.int IntKind.u8 0, Value.int IntKind.u8 0, Value.int IntKind.u8 0, Value.int IntKind.u8 0, Value.int IntKind.u8 0, Value.int IntKind.u8 0, Value.int IntKind.u8 0, Value.int IntKind.u8 0, Value.int IntKind.u8 0, Value.int IntKind.u8 0, Value.int IntKind.u8 0, Value.int IntKind.u8 0, Value.int IntKind.u8 0, Value.int IntKind.u8 0, Value.int IntKind.u8 0, Value.int IntKind.u8 0, Value.int IntKind.u8 0, Value.int IntKind.u8 0, Value.int IntKind.u8 0, Value.int IntKind.u8 0, Value.int IntKind.u8 0, Value.int IntKind.u8 0, Value.int IntKind.u8 0, Value.int IntKind.u8 0, Value.int IntKind.u8 0, Value.int IntKind.u8 0] 24)).heap[w.heap.size]? = some (.cells #[Value.int IntKind.u8 0, Value.int IntKind.u8 0, Value.int IntKind.u8 0, Value.int IntKind.u8 0, Value.int IntKind.u8 0, Value.int IntKind.u8 0, Value.int IntKind.u8 0, Value.int IntKind.u8 0, Value.int IntKind.u8 0, Value.int IntKind.u8 0, Value.int IntKind.u8 0, Value.int IntKind.u8 0, Value.int IntKind.u8 0, Value.int IntKind.u8 0, Value.int IntKind.u8 0, Value.int IntKind.u8 0, Value.int IntKind.u8 0, Value.int IntKind.u8 0, Value.int IntKind.u8 0, Value.int IntKind.u8 0, Value.int IntKind.u8 0, Value.int IntKind.u8 0, Value.int IntKind.u8 0, Value.int IntKind.u8 0, Value.int IntKind.u8 0, Value.int IntKind.u8 0, Value.int IntKind.u8 0, Value.int IntKind.u8 0, Value.int IntKind.u8 0, Value.int IntKind.u8 0, Value.int IntKind.u8 0, Value.int IntKind.u8 0] 24 (0, 0)) := heap_alloc_new _ _
  have hB0 : Below w.heap.size w (w.alloc (.cells #[Value.int IntKind.u8 0, Value.int IntKind.u8 0, Value.int IntKind.u8 0, Value.int IntKind.u8 0, Value.int IntKind.u8 0, Value.int IntKind.u8 0, Value.int IntKind.u8 0, Value.int IntKind.u8 0, Value.int IntKind.u8 0, Value.int IntKind.u8 0, Value.int IntKind.u8 0, Value.int IntKind.u8 0, Value.int IntKind.u8 0, Value.int IntKind.u8 0, Value.int IntKind.u8 0, Value.int IntKind.u8 0, Value.int IntKind.u8 0, Value.int IntKind.u8 0, Value.int IntKind.u8 0, Value.int IntKind.u8 0, Value.int IntKind.u8 0, Value.int IntKind.u8 0, Value.int IntKind.u8 0, Value.int IntKind.u8 0, Value.int IntKind.u8 0, Value.int IntKind.u8 0, Value.int IntKind.u8 0, Value.int IntKind.u8 0, Value.int IntKind.u8 0, Value.int IntKind.u8 0, Value.int IntKind.u8 0, Value.int IntKind.u8 0] 24)) := (Below.refl _ _).alloc (Nat.le_refl _) _
  have hS0 : (w.alloc (.cells #[Value.int IntKind.u8 0, Value.int IntKind.u8 0, Value.int IntKind.u8 0, Value.int IntKind.u8 0, Value.int IntKind.u8 0, Value.int IntKind.u8 0, Value.int IntKind.u8 0, Value.int IntKind.u8 0, Value.int IntKind.u8 0, Value.int IntKind.u8 0, Value.int IntKind.u8 0, Value.int IntKind.u8 0, Value.int IntKind.u8 0, Value.int IntKind.u8 0, Value.int IntKind.u8 0, Value.int IntKind.u8 0, Value.int IntKind.u8 0, Value.int IntKind.u8 0, Value.int IntKind.u8 0, Value.int IntKind.u8 0, Value.int IntKind.u8 0, Value.int IntKind.u8 0, Value.int IntKind.u8 0, Value.int IntKind.u8 0, Value.int IntKind.u8 0, Value.int IntKind.u8 0, Value.int IntKind.u8 0, Value.int IntKind.u8 0, Value.int IntKind.u8 0, Value.int IntKind.u8 0, Value.int IntKind.u8 0, Value.int IntKind.u8 0] 24)).heap.size = w.heap.size + 1 := by simp
  have HOa := hid hO0; have HBa := hid hB0; have HSa := hid hS0
  clear hO0 hB0 hS0
  generalize w.alloc (.cells #[Value.int IntKind.u8 0, Value.int IntKind.u8 0, Value.int IntKind.u8 0, Value.int IntKind.u8 0, Value.int IntKind.u8 0, Value.int IntKind.u8 0, Value.int IntKind.u8 0, Value.int IntKind.u8 0, Value.int IntKind.u8 0, Value.int IntKind.u8 0, Value.int IntKind.u8 0, Value.int IntKind.u8 0, Value.int IntKind.u8 0, Value.int IntKind.u8 0, Value.int IntKind.u8 0, Value.int IntKind.u8 0, Value.int IntKind.u8 0, Value.int IntKind.u8 0, Value.int IntKind.u8 0, Value.int IntKind.u8 0, Value.int IntKind.u8 0, Value.int IntKind.u8 0, Value.int IntKind.u8 0, Value.int IntKind.u8 0, Value.int IntKind.u8 0, Value.int IntKind.u8 0, Value.int IntKind.u8 0, Value.int IntKind.u8 0, Value.int IntKind.u8 0, Value.int IntKind.u8 0, Value.int IntKind.u8 0, Value.int IntKind.u8 0] 24) = wa at *
  have hown : Own (wa.alloc (.cells #[] 5)) wa.heap.size 5 .u8 (.slice (some ⟨w.heap.size + 1, 0, none⟩) 0 0) [] := by rw [← HSa.out]; exact Own.lit wa 5 .u8 wa.heap.size (Nat.le_refl _) [] #[] 0 rfl rfl (by decide)
  have HOWN := hid hown
  clear hown
  have hla : w.heap.size < wa.heap.size := lt_of_block HOa.out
  refine hid ?_
  refine wpList_app2 rfl _ _ 22 5 .u8 1 rfl elemB wa.heap.size (.slice (some ⟨w.heap.size + 1, 0, none⟩) 0 0) [] rfl HOWN.out Ak ck nk key rfl HNk.out HAk.out ((HRk.out.below HBa.out).below ((Below.refl _ _).alloc (Nat.le_refl _) _)) (by simp; omega) (by simp [maxLen]; omega) (by simp) ?_
  intro v1 wb ho1 hg1 hat1
  have hb1 : Below wa.heap.size wa wb := below_own ((Below.refl _ _).alloc (Nat.le_refl _) _) hg1 (fun q hq => by have h1 := Option.some.inj hq; have h2 := HSa.out; have h3 : w.heap.size + 1 = q := h1; omega)
  rw [List.nil_append] at ho1
  obtain ⟨A1, c1, rfl, hA1, hR1, hb1'⟩ := ho1.rd (by rw [HNk.out]; omega)
  rw [HNk.out] at ho1 ⊢
  have HO1 := hid ho1; have HB1 := hid hb1; have HR1 := hid hR1; have HA1 := hid hA1
  clear ho1 hb1 hg1 hat1 hA1 hR1 hb1'
  by_cases hlong : 64 < nk
  · have hli : (64 : Int) < (nk : Int) := by omega
    go_wp2_with (go_at_call 16; refine hold ?_)
    refine hid ?_
    refine Calls.mono (rsum_calls c1 nk A1 key HNk.out wb HR1.out HA1.out HBk.out (by omega)) ?_
    rintro e wc ⟨rfl, hBc⟩
    have HWc := hid (below_then HB1.out hBc)
    clear hBc HB1 HR1 HO1
    obtain ⟨S, hS⟩ : ∃ S, S = sha key := ⟨_, rfl⟩
    rw [← hS]
    have HSL : Hid (S.length = 32) := hid (by rw [hS]; exact sha_len _)
    have HSB : Hid (Bytes S) := hid (by rw [hS]; exact sha_bytes _)
    have HKO : Box (keyOf key = S ++ List.replicate (64 - 32) 0) := ⟨by unfold keyOf; rw [HNk.out, if_pos hlong, hS]; show sha key ++ List.replicate (64 - (sha key).length) 0 = _; rw [sha_len]⟩
    clear hS
    go_wp2_with (with_reducible refine hold_op (o := ⟨none, _, _, _, _, _⟩) ?_)
    have hO1 : (wc.alloc (.cells #[Value.int IntKind.u8 0, Value.int IntKind.u8 0, Value.int IntKind.u8 0, Value.int IntKind.u8 0, Value.int IntKind.u8 0, Value.int IntKind.u8 0, Value.int IntKind.u8 0, Value.int IntKind.u8 0, Value.int IntKind.u8 0, Value.int IntKind.u8 0, Value.int IntKind.u8 0, Value.int IntKind.u8 0, Value.int IntKind.u8 0, Value.int IntKind.u8 0, Value.int IntKind.u8 0, Value.int IntKind.u8 0, Value.int IntKind.u8 0, Value.int IntKind.u8 0, Value.int IntKind.u8 0, Value.int IntKind.u8 0, Value.int IntKind.u8 0, Value.int IntKind.u8 0, Value.int IntKind.u8 0, Value.int IntKind.u8 0, Value.int IntKind.u8 0, Value.int IntKind.u8 0, Value.int IntKind.u8 0, Value.int IntKind.u8 0, Value.int IntKind.u8 0, Value.int IntKind.u8 0, Value.int IntKind.u8 0, Value.int IntKind.u8 0] 24)).heap[wc.heap.size]? = some (.cells #[Value.int IntKind.u8 0, Value.int IntKind.u8 0, Value.int IntKind.u8 0, Value.int IntKind.u8 0, Value.int IntKind.u8 0, Value.int IntKind.u8 0, Value.int IntKind.u8 0, Value.int IntKind.u8 0, Value.int IntKind.u8 0, Value.int IntKind.u8 0, Value.int IntKind.u8 0, Value.int IntKind.u8 0, Value.int IntKind.u8 0, Value.int IntKind.u8 0, Value.int IntKind.u8 0, Value.int IntKind.u8 0, Value.int IntKind.u8 0, Value.int IntKind.u8 0, Value.int IntKind.u8 0, Value.int IntKind.u8 0, Value.int IntKind.u8 0, Value.int IntKind.u8 0, Value.int IntKind.u8 0, Value.int IntKind.u8 0, Value.int IntKind.u8 0, Value.int IntKind.u8 0, Value.int IntKind.u8 0, Value.int IntKind.u8 0, Value.int IntKind.u8 0, Value.int IntKind.u8 0, Value.int IntKind.u8 0, Value.int IntKind.u8 0] 24 (0, 0)) := heap_alloc_new _ _
    have hB1 : Below wc.heap.size wc (wc.alloc (.cells #[Value.int IntKind.u8 0, Value.int IntKind.u8 0, Value.int IntKind.u8 0, Value.int IntKind.u8 0, Value.int IntKind.u8 0, Value.int IntKind.u8 0, Value.int IntKind.u8 0, Value.int IntKind.u8 0, Value.int IntKind.u8 0, Value.int IntKind.u8 0, Value.int IntKind.u8 0, Value.int IntKind.u8 0, Value.int IntKind.u8 0, Value.int IntKind.u8 0, Value.int IntKind.u8 0, Value.int IntKind.u8 0, Value.int IntKind.u8 0, Value.int IntKind.u8 0, Value.int IntKind.u8 0, Value.int IntKind.u8 0, Value.int IntKind.u8 0, Value.int IntKind.u8 0, Value.int IntKind.u8 0, Value.int IntKind.u8 0, Value.int IntKind.u8 0, Value.int IntKind.u8 0, Value.int IntKind.u8 0, Value.int IntKind.u8 0, Value.int IntKind.u8 0, Value.int IntKind.u8 0, Value.int IntKind.u8 0, Value.int IntKind.u8 0] 24)) := (Below.refl _ _).alloc (Nat.le_refl _) _
    have HO1 := hid hO1; have HB1 := hid hB1
    clear hO1 hB1
    generalize wc.alloc (.cells #[Value.int IntKind.u8 0, Value.int IntKind.u8 0, Value.int IntKind.u8 0, Value.int IntKind.u8 0, Value.int IntKind.u8 0, Value.int IntKind.u8 0, Value.int IntKind.u8 0, Value.int IntKind.u8 0, Value.int IntKind.u8 0, Value.int IntKind.u8 0, Value.int IntKind.u8 0, Value.int IntKind.u8 0, Value.int IntKind.u8 0, Value.int IntKind.u8 0, Value.int IntKind.u8 0, Value.int IntKind.u8 0, Value.int IntKind.u8 0, Value.int IntKind.u8 0, Value.int IntKind.u8 0, Value.int IntKind.u8 0, Value.int IntKind.u8 0, Value.int IntKind.u8 0, Value.int IntKind.u8 0, Value.int IntKind.u8 0, Value.int IntKind.u8 0, Value.int IntKind.u8 0, Value.int IntKind.u8 0, Value.int IntKind.u8 0, Value.int IntKind.u8 0, Value.int IntKind.u8 0, Value.int IntKind.u8 0, Value.int IntKind.u8 0] 24) = wd at *
    refine hid ?_
    refine wpList_store_row rfl 24 (.tmp 6) (.tmp 18) rfl wc.heap.size _ rfl rfl 24 _ HO1.out (by rw [List.size_toArray, List.length_map, HSL.out]; kernel_rfl) (by show 32 = (S.map (Value.int .u8)).length; rw [List.length_map, HSL.out]) (map_one _) ?_
    have HSE := hid (setRow_heap wd wc.heap.size _ ((S.map (Value.int .u8)).toArray) 24 _ HO1.out)
    have HBE := hid (below_setRow HB1.out (Nat.le_refl _) ((S.map (Value.int .u8)).toArray))
    clear HO1 HB1
    generalize wd.setRow wc.heap.size ((S.map (Value.int .u8)).toArray) = we at *
    have HRS : Hid (Rd we .u8 (some ⟨wc.heap.size, 0, none⟩) S) := hid (Rd.row HSE.out (by rw [HSL.out]; omega))
    go_wp2_with (at_builtin; refine hold ?_)
    refine hid ?_
    refine wpList_app2 rfl _ _ 22 5 .u8 1 rfl elemB we.heap.size _ [] rfl (Own.lit we 5 .u8 we.heap.size (Nat.le_refl _) [] #[] 0 rfl rfl (by decide)) (some ⟨wc.heap.size, 0, none⟩) 32 32 S rfl HSL.out (fun h => by simp at h) (HRS.out.below ((Below.refl _ _).alloc (Nat.le_refl _) _)) (by simp) (by simp [maxLen]) (by simp) ?_
    intro v3 wf ho3 hg3 hat3
    have hb3 : Below we.heap.size we wf := below_own ((Below.refl _ _).alloc (Nat.le_refl _) _) hg3 (fun q hq => Nat.le_of_eq (Option.some.inj hq))
    rw [List.nil_append] at ho3
    have HWf := hid (below_then HWc.out (below_then HBE.out hb3))
    have HOv : Hid (Own wf wa.heap.size 5 .u8 v3 S) := hid (own_le ho3 (Nat.le_trans HWc.out.size HBE.out.size))
    clear ho3 hg3 hat3 hb3 HWc HBE HSE HRS HSB
    have hk64 : 32 ≤ 64 := by omega
    have HKL := hid (keyOf_len key)
    have HKB : Hid (Bytes (keyOf key)) := hid (by
      unfold keyOf
      refine Bytes.append ?_ (fun x hx => by rw [List.eq_of_mem_replicate hx]; omega)
      split
      · exact sha_bytes _
      · exact HBk.out)
    obtain ⟨A4, c4, hv4, _, _, _⟩ := HOv.out.rd (by rw [HSL.out]; omega)
    rw [HSL.out] at hv4
    try subst hv4
    go_wp2_with fail
    go_loopw [5] (fun s5 w' => ∃ k : Nat, k ≤ 64 - 32 ∧ Own w' wa.heap.size 5 .u8 s5 (S ++ List.replicate k 0) ∧ Below wa.heap.size wa w') (fun s5 _ => 64 - (match s5 with | .slice _ l _ => l | _ => 0))
    case atStart => exact ⟨0, by omega, by simpa using HOv.out, HWf.out⟩
    case round =>
      obtain ⟨k, hk, ho, hbw⟩ := hrel
      have hl5 : (S ++ List.replicate k (0 : Int)).length = 32 + k := by rw [List.length_append, HSL.out, List.length_replicate]
      obtain ⟨A5, c5, rfl, hA5, hR5, hb5⟩ := ho.rd (by rw [hl5]; omega)
      rw [hl5] at ho ⊢
      have HO5 := hid ho; have HB5 := hid hbw; have HR5 := hid hR5; have HL5 := hid hl5
      clear ho hbw hA5 hR5 hb5 hl5 HOv HWf
      obtain ⟨N, hN⟩ : ∃ N, N = 32 + k := ⟨_, rfl⟩
      rw [← hN] at HO5 HL5 ⊢
      have HNN := hid hN
      by_cases hlt : N < 64
      · have hlti : (N : Int) < 64 := by omega
        clear hN
        go_wp2_with (at_builtin; refine hold ?_)
        refine hid ?_
        refine wpList_app2 rfl _ _ 22 5 .u8 1 rfl elemB wa.heap.size _ (S ++ List.replicate k 0) rfl (HO5.out.below ((Below.refl _ _).alloc (Nat.le_refl _) _)) (some ⟨wr.heap.size, 0, none⟩) 1 1 [0] rfl rfl (fun h => by simp at h) (one_byte wr 0) (by rw [HL5.out]; omega) (by rw [HL5.out]; simp [maxLen]; omega) (by have := HB5.out.size; simp; omega) ?_
        intro v6 w6 ho6 hg6 hat6
        have hb6 : Below wa.heap.size wa w6 := below_own (below_then HB5.out ((Below.refl _ _).alloc (Nat.le_refl _) _)) hg6 (fun q hq => (HO5.out.lt q hq).1)
        have e6 : S ++ List.replicate k (0 : Int) ++ [0] = S ++ List.replicate (k + 1) 0 := by rw [List.append_assoc, List.replicate_succ']
        rw [e6] at ho6
        have hl6 : (S ++ List.replicate (k + 1) (0 : Int)).length = N + 1 := by rw [List.length_append, HSL.out, List.length_replicate, HNN.out]; omega
        obtain ⟨A6, c6, rfl, hA6, hR6, hb6'⟩ := ho6.rd (by rw [hl6]; omega)
        rw [hl6] at ho6 ⊢
        have HO6 := hid ho6; have HB6 := hid hb6
        clear ho6 hb6 hg6 hat6 hA6 hR6 hb6' e6 hl6 HO5 HB5 HR5
        go_wp2
        go_roundw
        case rel => exact ⟨k + 1, by have := HNN.out; omega, HO6.out, HB6.out⟩
        case measure => simp; omega
      · have hN64 : N = 64 := by omega
        have hk2 : k = 64 - 32 := by omega
        have hnl : ¬ (N : Int) < 64 := by omega
        have HOK : Hid (Own wr wa.heap.size 5 .u8 (.slice A5 N c5) (keyOf key)) := hid (by rw [HKO.out, ← hk2]; exact HO5.out)
        clear hN hk2 HNN HL5 HO5 HKO HR5 hlt hk
        subst hN64
        obtain ⟨g5, o5, rfl, hg5⟩ := (HOK.out.rd' (by rw [HKL.out]; omega)).form 0 (by rw [HKL.out]; omega)
        obtain rfl : o5 = 0 := own_off HOK.out
        have HM : Box (mac key bs = sha ((keyOf key).map (xorI · 92) ++ sha ((keyOf key).map (xorI · 54) ++ bs))) := ⟨rfl⟩
        have HBr := hid HB5.out
        clear HB5
        obtain ⟨KO, hKO⟩ : ∃ KO, KO = keyOf key := ⟨_, rfl⟩
        rw [← hKO] at HM HOK HKL HKB
        clear hKO
        go_wp2_with fail
        have hX0 : Own (wr.alloc (.cells #[] 5)) wr.heap.size 5 .u8 (.slice (some ⟨wr.heap.size, 0, none⟩) 0 0) [] := Own.lit wr 5 .u8 wr.heap.size (Nat.le_refl _) [] #[] 0 rfl rfl (by decide)
        have hXB : Below wr.heap.size wr (wr.alloc (.cells #[] 5)) := (Below.refl _ _).alloc (Nat.le_refl _) _
        have hXS : (wr.alloc (.cells #[] 5)).heap.size = wr.heap.size + 1 := by simp
        have HX0 := hid hX0; have HXB := hid hXB; have HXS := hid hXS
        clear hX0 hXB hXS
        generalize wr.alloc (.cells #[] 5) = wp at *
        have hY0 : Own (wp.alloc (.cells #[] 5)) wr.heap.size 5 .u8 (.slice (some ⟨wr.heap.size + 1, 0, none⟩) 0 0) [] := by rw [← HXS.out]; exact own_le (Own.lit wp 5 .u8 wp.heap.size (Nat.le_refl _) [] #[] 0 rfl rfl (by decide)) (by have := HXS.out; omega)
        have hYB : Below wp.heap.size wp (wp.alloc (.cells #[] 5)) := (Below.refl _ _).alloc (Nat.le_refl _) _
        have HX1 := hid (HX0.out.below hYB)
        have HYB := hid (below_then HXB.out hYB)
        have HY0 := hid hY0
        clear hY0 hYB HX0 HXB HXS
        generalize wp.alloc (.cells #[] 5) = wq at *
        obtain ⟨wo, rfl⟩ : ∃ wo : World, wo = wr := ⟨_, rfl⟩
        go_loopw [7, 8, 9] (fun s7 s8 s9 w' => ∃ k : Nat, k ≤ 64 ∧ s9 = .int .i64 k ∧ Own w' wo.heap.size 5 .u8 s7 ((KO.take k).map (xorI · 54)) ∧ Own w' wo.heap.size 5 .u8 s8 ((KO.take k).map (xorI · 92)) ∧ Apart s7 s8 ∧ Below wo.heap.size wo w') (fun _ _ s9 _ => 64 - (intOf s9).toNat)
        case atStart => exact ⟨0, by omega, rfl, HX1.out, HY0.out, (fun q h1 h2 => by have h3 : wo.heap.size = q := Option.some.inj h1; have h4 : wo.heap.size + 1 = q := Option.some.inj h2; omega), HYB.out⟩
        case round =>
          obtain ⟨k, hk, rfl, ho7, ho8, hap, hbw⟩ := hrel
          have HB := hid hbw
          clear HX1 HY0 HYB hbw
          have hlk : ∀ c, ((KO.take k).map (xorI · c)).length = k := fun c => by rw [List.length_map, List.length_take, HKL.out]; omega
          obtain ⟨A7, c7, rfl, hA7, hR7, hb7⟩ := ho7.rd (by rw [hlk]; omega)
          obtain ⟨A8, c8, rfl, hA8, hR8, hb8⟩ := ho8.rd (by rw [hlk]; omega)
          rw [hlk] at ho7 ho8 hap ⊢
          rw [hlk] at hap ⊢
          have HO7 := hid ho7; have HO8 := hid ho8; have HAP := hid hap
          have HA7 := hid hA7; have HR7 := hid hR7; have HA8 := hid hA8; have HR8 := hid hR8
          have HLK : Box (∀ c, ((KO.take k).map (xorI · c)).length = k) := ⟨hlk⟩
          clear ho7 ho8 hap hb7 hb8 hA7 hR7 hA8 hR8 hlk
          by_cases hlt : k < 64
          · have hk0 : (0 : Int) ≤ (k : Int) := by omega
            have hk1 : (k : Int) < 64 := by omega
            have x0 : wr.cell? ⟨g5, k, none⟩ = some (.int .u8 (KO.getD k 0)) := (HOK.out.below HB.out).cell k (by rw [HKL.out]; exact hlt)
            have e54 : bits .xor .u8 (KO.getD k 0) 54 = xorI (KO.getD k 0) 54 := xorI_eq _ 54 (HKB.out.at_ k).1
            have e92 : bits .xor .u8 (KO.getD k 0) 92 = xorI (KO.getD k 0) 92 := xorI_eq _ 92 (HKB.out.at_ k).1
            have HTK : Box (∀ c, (KO.take k).map (xorI · c) ++ [xorI (KO.getD k 0) c] = (KO.take (k + 1)).map (xorI · c)) := ⟨fun c => by
              have hkl : k < KO.length := by rw [HKL.out]; exact hlt
              have g1 : KO.getD k 0 = KO[k] := by simp [List.getD_eq_getElem?_getD, hkl]
              rw [List.take_succ_eq_append_getElem hkl, List.map_append, g1]
              rfl⟩
            have XC := hid (HOK.out.cell k (by rw [HKL.out]; exact hlt))
            generalize KO.getD k 0 = X at *
            go_wp2_with (at_builtin; refine hold ?_)
            refine hid ?_
            refine wpList_app2 rfl _ _ 22 5 .u8 1 rfl elemB wo.heap.size (.slice A7 k c7) ((KO.take k).map (xorI · 54)) rfl (HO7.out.below ((Below.refl _ _).alloc (Nat.le_refl _) _)) (some ⟨wr.heap.size, 0, none⟩) 1 1 [xorI X 54] rfl rfl (fun h => by simp at h) (one_byte wr _) (by rw [HLK.out]; omega) (by rw [HLK.out]; simp [maxLen]; omega) (by have := HB.out.size; simp; omega) ?_
            intro v9 w9 ho9 hg9 hat9
            have hb9 : Below wo.heap.size wo w9 := below_own (below_then HB.out ((Below.refl _ _).alloc (Nat.le_refl _) _)) hg9 (fun q hq => (HO7.out.lt q hq).1)
            rw [HTK.out] at ho9
            have ho8' : Own w9 wo.heap.size 5 .u8 (.slice A8 k c8) ((KO.take k).map (xorI · 92)) := (HO8.out.below ((Below.refl _ _).alloc (Nat.le_refl _) _)).kept hg9 (HAP.out.ne)
            have hap9 : Apart v9 (.slice A8 k c8) := HAP.out.grow hat9 (fun q hq => by have := (HO8.out.lt q hq).2; simp; omega)
            have HO9 := hid ho9; have HB9 := hid hb9; have HO8' := hid ho8'; have HAP9 := hid hap9
            clear ho9 hb9 ho8' hap9 hg9 hat9 HO7 HO8 HAP HB HR7 HR8
            have hlk9 : ∀ c, ((KO.take (k + 1)).map (xorI · c)).length = k + 1 := fun c => by rw [List.length_map, List.length_take, HKL.out]; omega
            obtain ⟨A9, c9, rfl, hA9, hR9, _⟩ := HO9.out.rd (by rw [hlk9]; omega)
            rw [hlk9] at HO9 HAP9 ⊢
            have x1 : w9.cell? ⟨g5, k, none⟩ = some (.int .u8 X) := (HB9.out.cell (p := ⟨g5, k, none⟩) (by exact hg5)).trans XC.out
            clear x0 hA9 hR9
            have HLK9 : Box (∀ c, ((KO.take (k + 1)).map (xorI · c)).length = k + 1) := ⟨hlk9⟩
            clear hlk9
            go_wp2_with (at_builtin; refine hold ?_)
            refine hid ?_
            refine wpList_app2 rfl _ _ 22 5 .u8 1 rfl elemB wo.heap.size (.slice A8 k c8) ((KO.take k).map (xorI · 92)) rfl (HO8'.out.below ((Below.refl _ _).alloc (Nat.le_refl _) _)) (some ⟨w9.heap.size, 0, none⟩) 1 1 [xorI X 92] rfl rfl (fun h => by simp at h) (one_byte w9 _) (by rw [HLK.out]; omega) (by rw [HLK.out]; simp [maxLen]; omega) (by have := HB9.out.size; simp; omega) ?_
            intro v10 w10 ho10 hg10 hat10
            have hb10 : Below wo.heap.size wo w10 := below_own (below_then HB9.out ((Below.refl _ _).alloc (Nat.le_refl _) _)) hg10 (fun q hq => (HO8'.out.lt q hq).1)
            rw [HTK.out] at ho10
            have ho9' : Own w10 wo.heap.size 5 .u8 (.slice A9 (k + 1) c9) ((KO.take (k + 1)).map (xorI · 54)) := (HO9.out.below ((Below.refl _ _).alloc (Nat.le_refl _) _)).kept hg10 (HAP9.out.symm.ne)
            have hap10 : Apart (.slice A9 (k + 1) c9) v10 := (HAP9.out.symm.grow hat10 (fun q hq => by have := (HO9.out.lt q hq).2; simp; omega)).symm
            have HO10 := hid ho10; have HB10 := hid hb10; have HO9' := hid ho9'; have HAP10 := hid hap10
            clear ho10 hb10 ho9' hap10 hg10 hat10 HO9 HO8' HAP9 HB9 x1 e54 e92
            obtain ⟨A10, c10, rfl, hA10, hR10, _⟩ := HO10.out.rd (by rw [HLK9.out]; omega)
            rw [HLK9.out] at HO10 HAP10 ⊢
            clear hA10 hR10
            go_wp2
            go_roundw
            case rel => exact ⟨k + 1, by omega, by go_num, HO9'.out, HO10.out, HAP10.out, HB10.out⟩
            case measure => simp [intOf]; omega
          · obtain rfl : k = 64 := by omega
            clear hlt hk
            have hfull : KO.take 64 = KO := List.take_of_length_le (by rw [HKL.out]; exact Nat.le_refl _)
            have h7 := HO7.out
            have h8 := HO8.out
            rw [hfull] at h7 h8
            have HK7 := hid h7; have HK8 := hid h8
            have HL54 : Hid ((KO.map (xorI · 54)).length = 64) := hid (by rw [List.length_map]; exact HKL.out)
            have HL92 : Hid ((KO.map (xorI · 92)).length = 64) := hid (by rw [List.length_map]; exact HKL.out)
            have HB54 := hid (xorI_bytes KO 54)
            have HB92 := hid (xorI_bytes KO 92)
            obtain ⟨K5, hK5⟩ : ∃ K5, K5 = KO.map (xorI · 54) := ⟨_, rfl⟩
            obtain ⟨K9, hK9⟩ : ∃ K9, K9 = KO.map (xorI · 92) := ⟨_, rfl⟩
            rw [← hK5] at HK7 HL54 HB54 HM
            rw [← hK9] at HK8 HL92 HB92 HM
            clear hK5 hK9 h7 h8 hfull HO7 HO8 HKL HKB HLK HOK
            have HWr := hid (below_then HBr.out HB.out)
            have hwo := HBr.out.size
            have HRr := hid ((HR.out.below HBa.out).below HWr.out)
            have hwor := HB.out.size
            clear HBr HB
            go_wp2_with (at_builtin; refine hold ?_)
            refine hid ?_
            refine wpList_app2 rfl _ _ 22 5 .u8 1 rfl elemB wo.heap.size (.slice A7 64 c7) K5 rfl HK7.out A c n bs rfl HN.out HA.out HRr.out (by rw [HL54.out]; omega) (by rw [HL54.out]; simp [maxLen]; omega) hwor ?_
            intro v11 w11 ho11 hg11 hat11
            have hb11 : Below wo.heap.size wr w11 := below_app hg11 (fun q hq => (HK7.out.lt q hq).1)
            obtain ⟨A11, c11, rfl, hA11, hR11, _⟩ := ho11.rd (by rw [List.length_append, HL54.out, HN.out]; omega)
            have hl11 : (K5 ++ bs).length = 64 + n := by rw [List.length_append, HL54.out, HN.out]
            rw [hl11]
            have hk8' : Own w11 wo.heap.size 5 .u8 (.slice A8 64 c8) K9 := HK8.out.kept hg11 HAP.out.ne
            have HW11 := hid (below_more HWr.out hb11 hwo)
            have hwo11 : wo.heap.size ≤ w11.heap.size := Nat.le_trans hwor hb11.size
            have HK8' := hid hk8'; have HR11 := hid hR11; have HA11 := hid hA11; have HL11 := hid hl11
            clear ho11 hg11 hat11 hb11 hR11 hA11 hk8' HK7 HK8 HAP HRr HWr hl11
            go_wp2_with (go_at_call 16; refine hold ?_)
            refine hid ?_
            refine Calls.mono (rsum_calls c11 (64 + n) A11 (K5 ++ bs) HL11.out w11 HR11.out HA11.out (HB54.out.append HBb.out) (by omega)) ?_
            rintro e w12 ⟨rfl, hB12⟩
            obtain ⟨S2, hS2⟩ : ∃ S2, S2 = sha (K5 ++ bs) := ⟨_, rfl⟩
            rw [← hS2] at HM ⊢
            have HS2L : Hid (S2.length = 32) := hid (by rw [hS2]; exact sha_len _)
            have HS2B : Hid (Bytes S2) := hid (by rw [hS2]; exact sha_bytes _)
            clear hS2
            have HW12 := hid (below_then HW11.out hB12)
            have HK12 := hid (HK8'.out.below hB12)
            have hw12 : wo.heap.size ≤ w12.heap.size := Nat.le_trans hwo11 hB12.size
            clear hB12 HW11 HK8' HR11 HA11 HL11
            go_wp2_with (with_reducible refine hold_op (o := ⟨none, _, _, _, _, _⟩) ?_)
            have hO1 : (w12.alloc (.cells #[Value.int IntKind.u8 0, Value.int IntKind.u8 0, Value.int IntKind.u8 0, Value.int IntKind.u8 0, Value.int IntKind.u8 0, Value.int IntKind.u8 0, Value.int IntKind.u8 0, Value.int IntKind.u8 0, Value.int IntKind.u8 0, Value.int IntKind.u8 0, Value.int IntKind.u8 0, Value.int IntKind.u8 0, Value.int IntKind.u8 0, Value.int IntKind.u8 0, Value.int IntKind.u8 0, Value.int IntKind.u8 0, Value.int IntKind.u8 0, Value.int IntKind.u8 0, Value.int IntKind.u8 0, Value.int IntKind.u8 0, Value.int IntKind.u8 0, Value.int IntKind.u8 0, Value.int IntKind.u8 0, Value.int IntKind.u8 0, Value.int IntKind.u8 0, Value.int IntKind.u8 0, Value.int IntKind.u8 0, Value.int IntKind.u8 0, Value.int IntKind.u8 0, Value.int IntKind.u8 0, Value.int IntKind.u8 0, Value.int IntKind.u8 0] 24)).heap[w12.heap.size]? = some (.cells #[Value.int IntKind.u8 0, Value.int IntKind.u8 0, Value.int IntKind.u8 0, Value.int IntKind.u8 0, Value.int IntKind.u8 0, Value.int IntKind.u8 0, Value.int IntKind.u8 0, Value.int IntKind.u8 0, Value.int IntKind.u8 0, Value.int IntKind.u8 0, Value.int IntKind.u8 0, Value.int IntKind.u8 0, Value.int IntKind.u8 0, Value.int IntKind.u8 0, Value.int IntKind.u8 0, Value.int IntKind.u8 0, Value.int IntKind.u8 0, Value.int IntKind.u8 0, Value.int IntKind.u8 0, Value.int IntKind.u8 0, Value.int IntKind.u8 0, Value.int IntKind.u8 0, Value.int IntKind.u8 0, Value.int IntKind.u8 0, Value.int IntKind.u8 0, Value.int IntKind.u8 0, Value.int IntKind.u8 0, Value.int IntKind.u8 0, Value.int IntKind.u8 0, Value.int IntKind.u8 0, Value.int IntKind.u8 0, Value.int IntKind.u8 0] 24 (0, 0)) := heap_alloc_new _ _
            have hB1 : Below w12.heap.size w12 (w12.alloc (.cells #[Value.int IntKind.u8 0, Value.int IntKind.u8 0, Value.int IntKind.u8 0, Value.int IntKind.u8 0, Value.int IntKind.u8 0, Value.int IntKind.u8 0, Value.int IntKind.u8 0, Value.int IntKind.u8 0, Value.int IntKind.u8 0, Value.int IntKind.u8 0, Value.int IntKind.u8 0, Value.int IntKind.u8 0, Value.int IntKind.u8 0, Value.int IntKind.u8 0, Value.int IntKind.u8 0, Value.int IntKind.u8 0, Value.int IntKind.u8 0, Value.int IntKind.u8 0, Value.int IntKind.u8 0, Value.int IntKind.u8 0, Value.int IntKind.u8 0, Value.int IntKind.u8 0, Value.int IntKind.u8 0, Value.int IntKind.u8 0, Value.int IntKind.u8 0, Value.int IntKind.u8 0, Value.int IntKind.u8 0, Value.int IntKind.u8 0, Value.int IntKind.u8 0, Value.int IntKind.u8 0, Value.int IntKind.u8 0, Value.int IntKind.u8 0] 24)) := (Below.refl _ _).alloc (Nat.le_refl _) _
            have HO1x := hid hO1; have HB1x := hid hB1
            clear hO1 hB1
            generalize w12.alloc (.cells #[Value.int IntKind.u8 0, Value.int IntKind.u8 0, Value.int IntKind.u8 0, Value.int IntKind.u8 0, Value.int IntKind.u8 0, Value.int IntKind.u8 0, Value.int IntKind.u8 0, Value.int IntKind.u8 0, Value.int IntKind.u8 0, Value.int IntKind.u8 0, Value.int IntKind.u8 0, Value.int IntKind.u8 0, Value.int IntKind.u8 0, Value.int IntKind.u8 0, Value.int IntKind.u8 0, Value.int IntKind.u8 0, Value.int IntKind.u8 0, Value.int IntKind.u8 0, Value.int IntKind.u8 0, Value.int IntKind.u8 0, Value.int IntKind.u8 0, Value.int IntKind.u8 0, Value.int IntKind.u8 0, Value.int IntKind.u8 0, Value.int IntKind.u8 0, Value.int IntKind.u8 0, Value.int IntKind.u8 0, Value.int IntKind.u8 0, Value.int IntKind.u8 0, Value.int IntKind.u8 0, Value.int IntKind.u8 0, Value.int IntKind.u8 0] 24) = w13 at *
            refine hid ?_
            refine wpList_store_row rfl 24 (.tmp 10) (.tmp 53) rfl w12.heap.size _ rfl rfl 24 _ HO1x.out (by rw [List.size_toArray, List.length_map, HS2L.out]; kernel_rfl) (by show 32 = (S2.map (Value.int .u8)).length; rw [List.length_map, HS2L.out]) (map_one _) ?_
            have HSEx := hid (setRow_heap w13 w12.heap.size _ ((S2.map (Value.int .u8)).toArray) 24 _ HO1x.out)
            have HBEx := hid (below_setRow HB1x.out (Nat.le_refl _) ((S2.map (Value.int .u8)).toArray))
            clear HO1x HB1x
            generalize w13.setRow w12.heap.size ((S2.map (Value.int .u8)).toArray) = w14 at *
            have HRS2 : Hid (Rd w14 .u8 (some ⟨w12.heap.size, 0, none⟩) S2) := hid (Rd.row HSEx.out (by rw [HS2L.out]; omega))
            have HK14 := hid (HK12.out.below HBEx.out)
            have HW14 := hid (below_then HW12.out HBEx.out)
            have hw14 : wo.heap.size ≤ w14.heap.size := Nat.le_trans hw12 HBEx.out.size
            clear HSEx HBEx HK12 HW12
            generalize (S2.map (Value.int .u8)).toArray = SA2
            go_wp2_with (at_builtin; refine hold ?_)
            refine hid ?_
            refine wpList_app2 rfl _ _ 22 5 .u8 1 rfl elemB wo.heap.size (.slice A8 64 c8) K9 rfl HK14.out (some ⟨w12.heap.size, 0, none⟩) 32 32 S2 rfl HS2L.out (fun h => by simp at h) HRS2.out (by rw [HL92.out]; omega) (by rw [HL92.out]; simp [maxLen]) hw14 ?_
            intro v15 w15 ho15 hg15 hat15
            have hb15 : Below wo.heap.size w14 w15 := below_app hg15 (fun q hq => (HK14.out.lt q hq).1)
            have hl15 : (K9 ++ S2).length = 96 := by rw [List.length_append, HL92.out, HS2L.out]
            obtain ⟨A15, c15, rfl, hA15, hR15, _⟩ := ho15.rd (by rw [hl15]; omega)
            rw [hl15]
            have HW15 := hid (below_more HW14.out hb15 hwo)
            have HR15 := hid hR15; have HA15 := hid hA15; have HL15 := hid hl15
            clear ho15 hg15 hat15 hb15 hR15 hA15 hl15 HK14 HW14 HRS2
            go_wp2_with (go_at_call 16; refine hold ?_)
            refine hid ?_
            refine Calls.mono (rsum_calls c15 96 A15 (K9 ++ S2) HL15.out w15 HR15.out HA15.out (HB92.out.append HS2B.out) (by omega)) ?_
            rintro e w16 ⟨rfl, hB16⟩
            have HW16 := hid (below_then HW15.out hB16)
            have HO16 : Hid (w16.heap[w.heap.size]? = some (.cells #[Value.int IntKind.u8 0, Value.int IntKind.u8 0, Value.int IntKind.u8 0, Value.int IntKind.u8 0, Value.int IntKind.u8 0, Value.int IntKind.u8 0, Value.int IntKind.u8 0, Value.int IntKind.u8 0, Value.int IntKind.u8 0, Value.int IntKind.u8 0, Value.int IntKind.u8 0, Value.int IntKind.u8 0, Value.int IntKind.u8 0, Value.int IntKind.u8 0, Value.int IntKind.u8 0, Value.int IntKind.u8 0, Value.int IntKind.u8 0, Value.int IntKind.u8 0, Value.int IntKind.u8 0, Value.int IntKind.u8 0, Value.int IntKind.u8 0, Value.int IntKind.u8 0, Value.int IntKind.u8 0, Value.int IntKind.u8 0, Value.int IntKind.u8 0, Value.int IntKind.u8 0, Value.int IntKind.u8 0, Value.int IntKind.u8 0, Value.int IntKind.u8 0, Value.int IntKind.u8 0, Value.int IntKind.u8 0, Value.int IntKind.u8 0] 24 (0, 0))) := hid ((HW16.out.block _ hla).trans HOa.out)
            have HV16 := hid (below_then HBa.out HW16.out)
            clear hB16 HW15 HW16 HR15 HA15 HL15
            obtain ⟨R, hR⟩ : ∃ R, R = ((sha (K9 ++ S2)).map (Value.int .u8)).toArray := ⟨_, rfl⟩
            rw [← hR]
            have HRR : Box (R = ((mac key bs).map (Value.int .u8)).toArray) := ⟨by rw [HM.out]; exact hR⟩
            have HHS : Hid (R.size = 32) := hid (by rw [hR]; exact sha_size _)
            have HHO : Hid (R.all (·.oneCell') = true) := hid (by rw [hR]; exact sha_one _)
            clear hR
            go_wp2_with (with_reducible refine hold_op (o := ⟨none, _, _, _, _, _⟩) ?_)
            refine hid ?_
            refine wpList_store_row rfl 24 (.tmp 4) (.tmp 57) rfl w.heap.size R rfl rfl 24 _ HO16.out (by rw [HHS.out]; kernel_rfl) HHS.out.symm HHO.out ?_
            have HO5x := hid (setRow_heap w16 w.heap.size _ R 24 _ HO16.out)
            have HB5x := hid (below_setRow HV16.out (Nat.le_refl _) R)
            clear HO16 HV16
            generalize w16.setRow w.heap.size R = wz at *
            go_wp2
            refine bodyPost_ret (v := .agg R) ?_ rfl ⟨by rw [HRR.out], HB5x.out⟩
            exact results_cell_row (p := 4) rfl _ wz w.heap.size 24 R (0, 0) _ rfl HO5x.out Tryd.underlying24 rfl (by rw [HHS.out]; kernel_rfl)
  · have hli : ¬ (64 : Int) < (nk : Int) := by omega
    have HWf := HB1
    have HOv := HO1
    have HKO : Box (keyOf key = key ++ List.replicate (64 - nk) 0) := ⟨by unfold keyOf; rw [HNk.out, if_neg hlong]; show key ++ List.replicate (64 - key.length) 0 = _; rw [HNk.out]⟩
    clear HB1 HR1 HO1
    have hk64 : nk ≤ 64 := by omega
    have HKL := hid (keyOf_len key)
    have HKB : Hid (Bytes (keyOf key)) := hid (by
      unfold keyOf
      refine Bytes.append ?_ (fun x hx => by rw [List.eq_of_mem_replicate hx]; omega)
      split
      · exact sha_bytes _
      · exact HBk.out)
    obtain ⟨A4, c4, hv4, _, _, _⟩ := HOv.out.rd (by rw [HNk.out]; omega)
    rw [HNk.out] at hv4
    try subst hv4
    go_wp2_with fail
    go_loopw [5] (fun s5 w' => ∃ k : Nat, k ≤ 64 - nk ∧ Own w' wa.heap.size 5 .u8 s5 (key ++ List.replicate k 0) ∧ Below wa.heap.size wa w') (fun s5 _ => 64 - (match s5 with | .slice _ l _ => l | _ => 0))
    case atStart => exact ⟨0, by omega, by simpa using HOv.out, HWf.out⟩
    case round =>
      obtain ⟨k, hk, ho, hbw⟩ := hrel
      have hl5 : (key ++ List.replicate k (0 : Int)).length = nk + k := by rw [List.length_append, HNk.out, List.length_replicate]
      obtain ⟨A5, c5, rfl, hA5, hR5, hb5⟩ := ho.rd (by rw [hl5]; omega)
      rw [hl5] at ho ⊢
      have HO5 := hid ho; have HB5 := hid hbw; have HR5 := hid hR5; have HL5 := hid hl5
      clear ho hbw hA5 hR5 hb5 hl5 HOv HWf
      obtain ⟨N, hN⟩ : ∃ N, N = nk + k := ⟨_, rfl⟩
      rw [← hN] at HO5 HL5 ⊢
      have HNN := hid hN
      by_cases hlt : N < 64
      · have hlti : (N : Int) < 64 := by omega
        clear hN
        go_wp2_with (at_builtin; refine hold ?_)
        refine hid ?_
        refine wpList_app2 rfl _ _ 22 5 .u8 1 rfl elemB wa.heap.size _ (key ++ List.replicate k 0) rfl (HO5.out.below ((Below.refl _ _).alloc (Nat.le_refl _) _)) (some ⟨wr.heap.size, 0, none⟩) 1 1 [0] rfl rfl (fun h => by simp at h) (one_byte wr 0) (by rw [HL5.out]; omega) (by rw [HL5.out]; simp [maxLen]; omega) (by have := HB5.out.size; simp; omega) ?_
        intro v6 w6 ho6 hg6 hat6
        have hb6 : Below wa.heap.size wa w6 := below_own (below_then HB5.out ((Below.refl _ _).alloc (Nat.le_refl _) _)) hg6 (fun q hq => (HO5.out.lt q hq).1)
        have e6 : key ++ List.replicate k (0 : Int) ++ [0] = key ++ List.replicate (k + 1) 0 := by rw [List.append_assoc, List.replicate_succ']
        rw [e6] at ho6
        have hl6 : (key ++ List.replicate (k + 1) (0 : Int)).length = N + 1 := by rw [List.length_append, HNk.out, List.length_replicate, HNN.out]; omega
        obtain ⟨A6, c6, rfl, hA6, hR6, hb6'⟩ := ho6.rd (by rw [hl6]; omega)
        rw [hl6] at ho6 ⊢
        have HO6 := hid ho6; have HB6 := hid hb6
        clear ho6 hb6 hg6 hat6 hA6 hR6 hb6' e6 hl6 HO5 HB5 HR5
        go_wp2
        go_roundw
        case rel => exact ⟨k + 1, by have := HNN.out; omega, HO6.out, HB6.out⟩
        case measure => simp; omega
      · have hN64 : N = 64 := by omega
        have hk2 : k = 64 - nk := by omega
        have hnl : ¬ (N : Int) < 64 := by omega
        have HOK : Hid (Own wr wa.heap.size 5 .u8 (.slice A5 N c5) (keyOf key)) := hid (by rw [HKO.out, ← hk2]; exact HO5.out)
        clear hN hk2 HNN HL5 HO5 HKO HR5 hlt hk
        subst hN64
        obtain ⟨g5, o5, rfl, hg5⟩ := (HOK.out.rd' (by rw [HKL.out]; omega)).form 0 (by rw [HKL.out]; omega)
        obtain rfl : o5 = 0 := own_off HOK.out
        have HM : Box (mac key bs = sha ((keyOf key).map (xorI · 92) ++ sha ((keyOf key).map (xorI · 54) ++ bs))) := ⟨rfl⟩
        have HBr := hid HB5.out
        clear HB5
        obtain ⟨KO, hKO⟩ : ∃ KO, KO = keyOf key := ⟨_, rfl⟩
        rw [← hKO] at HM HOK HKL HKB
        clear hKO
        go_wp2_with fail
        have hX0 : Own (wr.alloc (.cells #[] 5)) wr.heap.size 5 .u8 (.slice (some ⟨wr.heap.size, 0, none⟩) 0 0) [] := Own.lit wr 5 .u8 wr.heap.size (Nat.le_refl _) [] #[] 0 rfl rfl (by decide)
        have hXB : Below wr.heap.size wr (wr.alloc (.cells #[] 5)) := (Below.refl _ _).alloc (Nat.le_refl _) _
        have hXS : (wr.alloc (.cells #[] 5)).heap.size = wr.heap.size + 1 := by simp
        have HX0 := hid hX0; have HXB := hid hXB; have HXS := hid hXS
        clear hX0 hXB hXS
        generalize wr.alloc (.cells #[] 5) = wp at *
        have hY0 : Own (wp.alloc (.cells #[] 5)) wr.heap.size 5 .u8 (.slice (some ⟨wr.heap.size + 1, 0, none⟩) 0 0) [] := by rw [← HXS.out]; exact own_le (Own.lit wp 5 .u8 wp.heap.size (Nat.le_refl _) [] #[] 0 rfl rfl (by decide)) (by have := HXS.out; omega)
        have hYB : Below wp.heap.size wp (wp.alloc (.cells #[] 5)) := (Below.refl _ _).alloc (Nat.le_refl _) _
        have HX1 := hid (HX0.out.below hYB)
        have HYB := hid (below_then HXB.out hYB)
        have HY0 := hid hY0
        clear hY0 hYB HX0 HXB HXS
        generalize wp.alloc (.cells #[] 5) = wq at *
        obtain ⟨wo, rfl⟩ : ∃ wo : World, wo = wr := ⟨_, rfl⟩
        go_loopw [7, 8, 9] (fun s7 s8 s9 w' => ∃ k : Nat, k ≤ 64 ∧ s9 = .int .i64 k ∧ Own w' wo.heap.size 5 .u8 s7 ((KO.take k).map (xorI · 54)) ∧ Own w' wo.heap.size 5 .u8 s8 ((KO.take k).map (xorI · 92)) ∧ Apart s7 s8 ∧ Below wo.heap.size wo w') (fun _ _ s9 _ => 64 - (intOf s9).toNat)
        case atStart => exact ⟨0, by omega, rfl, HX1.out, HY0.out, (fun q h1 h2 => by have h3 : wo.heap.size = q := Option.some.inj h1; have h4 : wo.heap.size + 1 = q := Option.some.inj h2; omega), HYB.out⟩
        case round =>
          obtain ⟨k, hk, rfl, ho7, ho8, hap, hbw⟩ := hrel
          have HB := hid hbw
          clear HX1 HY0 HYB hbw
          have hlk : ∀ c, ((KO.take k).map (xorI · c)).length = k := fun c => by rw [List.length_map, List.length_take, HKL.out]; omega
          obtain ⟨A7, c7, rfl, hA7, hR7, hb7⟩ := ho7.rd (by rw [hlk]; omega)
          obtain ⟨A8, c8, rfl, hA8, hR8, hb8⟩ := ho8.rd (by rw [hlk]; omega)
          rw [hlk] at ho7 ho8 hap ⊢
          rw [hlk] at hap ⊢
          have HO7 := hid ho7; have HO8 := hid ho8; have HAP := hid hap
          have HA7 := hid hA7; have HR7 := hid hR7; have HA8 := hid hA8; have HR8 := hid hR8
          have HLK : Box (∀ c, ((KO.take k).map (xorI · c)).length = k) := ⟨hlk⟩
          clear ho7 ho8 hap hb7 hb8 hA7 hR7 hA8 hR8 hlk
          by_cases hlt : k < 64
          · have hk0 : (0 : Int) ≤ (k : Int) := by omega
            have hk1 : (k : Int) < 64 := by omega
            have x0 : wr.cell? ⟨g5, k, none⟩ = some (.int .u8 (KO.getD k 0)) := (HOK.out.below HB.out).cell k (by rw [HKL.out]; exact hlt)
            have e54 : bits .xor .u8 (KO.getD k 0) 54 = xorI (KO.getD k 0) 54 := xorI_eq _ 54 (HKB.out.at_ k).1
            have e92 : bits .xor .u8 (KO.getD k 0) 92 = xorI (KO.getD k 0) 92 := xorI_eq _ 92 (HKB.out.at_ k).1
            have HTK : Box (∀ c, (KO.take k).map (xorI · c) ++ [xorI (KO.getD k 0) c] = (KO.take (k + 1)).map (xorI · c)) := ⟨fun c => by
              have hkl : k < KO.length := by rw [HKL.out]; exact hlt
              have g1 : KO.getD k 0 = KO[k] := by simp [List.getD_eq_getElem?_getD, hkl]
              rw [List.take_succ_eq_append_getElem hkl, List.map_append, g1]
              rfl⟩
            have XC := hid (HOK.out.cell k (by rw [HKL.out]; exact hlt))
            generalize KO.getD k 0 = X at *
            go_wp2_with (at_builtin; refine hold ?_)
            refine hid ?_
            refine wpList_app2 rfl _ _ 22 5 .u8 1 rfl elemB wo.heap.size (.slice A7 k c7) ((KO.take k).map (xorI · 54)) rfl (HO7.out.below ((Below.refl _ _).alloc (Nat.le_refl _) _)) (some ⟨wr.heap.size, 0, none⟩) 1 1 [xorI X 54] rfl rfl (fun h => by simp at h) (one_byte wr _) (by rw [HLK.out]; omega) (by rw [HLK.out]; simp [maxLen]; omega) (by have := HB.out.size; simp; omega) ?_
            intro v9 w9 ho9 hg9 hat9
            have hb9 : Below wo.heap.size wo w9 := below_own (below_then HB.out ((Below.refl _ _).alloc (Nat.le_refl _) _)) hg9 (fun q hq => (HO7.out.lt q hq).1)
            rw [HTK.out] at ho9
            have ho8' : Own w9 wo.heap.size 5 .u8 (.slice A8 k c8) ((KO.take k).map (xorI · 92)) := (HO8.out.below ((Below.refl _ _).alloc (Nat.le_refl _) _)).kept hg9 (HAP.out.ne)
            have hap9 : Apart v9 (.slice A8 k c8) := HAP.out.grow hat9 (fun q hq => by have := (HO8.out.lt q hq).2; simp; omega)
            have HO9 := hid ho9; have HB9 := hid hb9; have HO8' := hid ho8'; have HAP9 := hid hap9
            clear ho9 hb9 ho8' hap9 hg9 hat9 HO7 HO8 HAP HB HR7 HR8
            have hlk9 : ∀ c, ((KO.take (k + 1)).map (xorI · c)).length = k + 1 := fun c => by rw [List.length_map, List.length_take, HKL.out]; omega
            obtain ⟨A9, c9, rfl, hA9, hR9, _⟩ := HO9.out.rd (by rw [hlk9]; omega)
            rw [hlk9] at HO9 HAP9 ⊢
            have x1 : w9.cell? ⟨g5, k, none⟩ = some (.int .u8 X) := (HB9.out.cell (p := ⟨g5, k, none⟩) (by exact hg5)).trans XC.out
            clear x0 hA9 hR9
            have HLK9 : Box (∀ c, ((KO.take (k + 1)).map (xorI · c)).length = k + 1) := ⟨hlk9⟩
            clear hlk9
            go_wp2_with (at_builtin; refine hold ?_)
            refine hid ?_
            refine wpList_app2 rfl _ _ 22 5 .u8 1 rfl elemB wo.heap.size (.slice A8 k c8) ((KO.take k).map (xorI · 92)) rfl (HO8'.out.below ((Below.refl _ _).alloc (Nat.le_refl _) _)) (some ⟨w9.heap.size, 0, none⟩) 1 1 [xorI X 92] rfl rfl (fun h => by simp at h) (one_byte w9 _) (by rw [HLK.out]; omega) (by rw [HLK.out]; simp [maxLen]; omega) (by have := HB9.out.size; simp; omega) ?_
            intro v10 w10 ho10 hg10 hat10
            have hb10 : Below wo.heap.size wo w10 := below_own (below_then HB9.out ((Below.refl _ _).alloc (Nat.le_refl _) _)) hg10 (fun q hq => (HO8'.out.lt q hq).1)
            rw [HTK.out] at ho10
            have ho9' : Own w10 wo.heap.size 5 .u8 (.slice A9 (k + 1) c9) ((KO.take (k + 1)).map (xorI · 54)) := (HO9.out.below ((Below.refl _ _).alloc (Nat.le_refl _) _)).kept hg10 (HAP9.out.symm.ne)
            have hap10 : Apart (.slice A9 (k + 1) c9) v10 := (HAP9.out.symm.grow hat10 (fun q hq => by have := (HO9.out.lt q hq).2; simp; omega)).symm
            have HO10 := hid ho10; have HB10 := hid hb10; have HO9' := hid ho9'; have HAP10 := hid hap10
            clear ho10 hb10 ho9' hap10 hg10 hat10 HO9 HO8' HAP9 HB9 x1 e54 e92
            obtain ⟨A10, c10, rfl, hA10, hR10, _⟩ := HO10.out.rd (by rw [HLK9.out]; omega)
            rw [HLK9.out] at HO10 HAP10 ⊢
            clear hA10 hR10
            go_wp2
            go_roundw
            case rel => exact ⟨k + 1, by omega, by go_num, HO9'.out, HO10.out, HAP10.out, HB10.out⟩
            case measure => simp [intOf]; omega
          · obtain rfl : k = 64 := by omega
            clear hlt hk
            have hfull : KO.take 64 = KO := List.take_of_length_le (by rw [HKL.out]; exact Nat.le_refl _)
            have h7 := HO7.out
            have h8 := HO8.out
            rw [hfull] at h7 h8
            have HK7 := hid h7; have HK8 := hid h8
            have HL54 : Hid ((KO.map (xorI · 54)).length = 64) := hid (by rw [List.length_map]; exact HKL.out)
            have HL92 : Hid ((KO.map (xorI · 92)).length = 64) := hid (by rw [List.length_map]; exact HKL.out)
            have HB54 := hid (xorI_bytes KO 54)
            have HB92 := hid (xorI_bytes KO 92)
            obtain ⟨K5, hK5⟩ : ∃ K5, K5 = KO.map (xorI · 54) := ⟨_, rfl⟩
            obtain ⟨K9, hK9⟩ : ∃ K9, K9 = KO.map (xorI · 92) := ⟨_, rfl⟩
            rw [← hK5] at HK7 HL54 HB54 HM
            rw [← hK9] at HK8 HL92 HB92 HM
            clear hK5 hK9 h7 h8 hfull HO7 HO8 HKL HKB HLK HOK
            have HWr := hid (below_then HBr.out HB.out)
            have hwo := HBr.out.size
            have HRr := hid ((HR.out.below HBa.out).below HWr.out)
            have hwor := HB.out.size
            clear HBr HB
            go_wp2_with (at_builtin; refine hold ?_)
            refine hid ?_
            refine wpList_app2 rfl _ _ 22 5 .u8 1 rfl elemB wo.heap.size (.slice A7 64 c7) K5 rfl HK7.out A c n bs rfl HN.out HA.out HRr.out (by rw [HL54.out]; omega) (by rw [HL54.out]; simp [maxLen]; omega) hwor ?_
            intro v11 w11 ho11 hg11 hat11
            have hb11 : Below wo.heap.size wr w11 := below_app hg11 (fun q hq => (HK7.out.lt q hq).1)
            obtain ⟨A11, c11, rfl, hA11, hR11, _⟩ := ho11.rd (by rw [List.length_append, HL54.out, HN.out]; omega)
            have hl11 : (K5 ++ bs).length = 64 + n := by rw [List.length_append, HL54.out, HN.out]
            rw [hl11]
            have hk8' : Own w11 wo.heap.size 5 .u8 (.slice A8 64 c8) K9 := HK8.out.kept hg11 HAP.out.ne
            have HW11 := hid (below_more HWr.out hb11 hwo)
            have hwo11 : wo.heap.size ≤ w11.heap.size := Nat.le_trans hwor hb11.size
            have HK8' := hid hk8'; have HR11 := hid hR11; have HA11 := hid hA11; have HL11 := hid hl11
            clear ho11 hg11 hat11 hb11 hR11 hA11 hk8' HK7 HK8 HAP HRr HWr hl11
            go_wp2_with (go_at_call 16; refine hold ?_)
            refine hid ?_
            refine Calls.mono (rsum_calls c11 (64 + n) A11 (K5 ++ bs) HL11.out w11 HR11.out HA11.out (HB54.out.append HBb.out) (by omega)) ?_
            rintro e w12 ⟨rfl, hB12⟩
            obtain ⟨S2, hS2⟩ : ∃ S2, S2 = sha (K5 ++ bs) := ⟨_, rfl⟩
            rw [← hS2] at HM ⊢
            have HS2L : Hid (S2.length = 32) := hid (by rw [hS2]; exact sha_len _)
            have HS2B : Hid (Bytes S2) := hid (by rw [hS2]; exact sha_bytes _)
            clear hS2
            have HW12 := hid (below_then HW11.out hB12)
            have HK12 := hid (HK8'.out.below hB12)
            have hw12 : wo.heap.size ≤ w12.heap.size := Nat.le_trans hwo11 hB12.size
            clear hB12 HW11 HK8' HR11 HA11 HL11
            go_wp2_with (with_reducible refine hold_op (o := ⟨none, _, _, _, _, _⟩) ?_)
            have hO1 : (w12.alloc (.cells #[Value.int IntKind.u8 0, Value.int IntKind.u8 0, Value.int IntKind.u8 0, Value.int IntKind.u8 0, Value.int IntKind.u8 0, Value.int IntKind.u8 0, Value.int IntKind.u8 0, Value.int IntKind.u8 0, Value.int IntKind.u8 0, Value.int IntKind.u8 0, Value.int IntKind.u8 0, Value.int IntKind.u8 0, Value.int IntKind.u8 0, Value.int IntKind.u8 0, Value.int IntKind.u8 0, Value.int IntKind.u8 0, Value.int IntKind.u8 0, Value.int IntKind.u8 0, Value.int IntKind.u8 0, Value.int IntKind.u8 0, Value.int IntKind.u8 0, Value.int IntKind.u8 0, Value.int IntKind.u8 0, Value.int IntKind.u8 0, Value.int IntKind.u8 0, Value.int IntKind.u8 0, Value.int IntKind.u8 0, Value.int IntKind.u8 0, Value.int IntKind.u8 0, Value.int IntKind.u8 0, Value.int IntKind.u8 0, Value.int IntKind.u8 0] 24)).heap[w12.heap.size]? = some (.cells #[Value.int IntKind.u8 0, Value.int IntKind.u8 0, Value.int IntKind.u8 0, Value.int IntKind.u8 0, Value.int IntKind.u8 0, Value.int IntKind.u8 0, Value.int IntKind.u8 0, Value.int IntKind.u8 0, Value.int IntKind.u8 0, Value.int IntKind.u8 0, Value.int IntKind.u8 0, Value.int IntKind.u8 0, Value.int IntKind.u8 0, Value.int IntKind.u8 0, Value.int IntKind.u8 0, Value.int IntKind.u8 0, Value.int IntKind.u8 0, Value.int IntKind.u8 0, Value.int IntKind.u8 0, Value.int IntKind.u8 0, Value.int IntKind.u8 0, Value.int IntKind.u8 0, Value.int IntKind.u8 0, Value.int IntKind.u8 0, Value.int IntKind.u8 0, Value.int IntKind.u8 0, Value.int IntKind.u8 0, Value.int IntKind.u8 0, Value.int IntKind.u8 0, Value.int IntKind.u8 0, Value.int IntKind.u8 0, Value.int IntKind.u8 0] 24 (0, 0)) := heap_alloc_new _ _
            have hB1 : Below w12.heap.size w12 (w12.alloc (.cells #[Value.int IntKind.u8 0, Value.int IntKind.u8 0, Value.int IntKind.u8 0, Value.int IntKind.u8 0, Value.int IntKind.u8 0, Value.int IntKind.u8 0, Value.int IntKind.u8 0, Value.int IntKind.u8 0, Value.int IntKind.u8 0, Value.int IntKind.u8 0, Value.int IntKind.u8 0, Value.int IntKind.u8 0, Value.int IntKind.u8 0, Value.int IntKind.u8 0, Value.int IntKind.u8 0, Value.int IntKind.u8 0, Value.int IntKind.u8 0, Value.int IntKind.u8 0, Value.int IntKind.u8 0, Value.int IntKind.u8 0, Value.int IntKind.u8 0, Value.int IntKind.u8 0, Value.int IntKind.u8 0, Value.int IntKind.u8 0, Value.int IntKind.u8 0, Value.int IntKind.u8 0, Value.int IntKind.u8 0, Value.int IntKind.u8 0, Value.int IntKind.u8 0, Value.int IntKind.u8 0, Value.int IntKind.u8 0, Value.int IntKind.u8 0] 24)) := (Below.refl _ _).alloc (Nat.le_refl _) _
            have HO1x := hid hO1; have HB1x := hid hB1
            clear hO1 hB1
            generalize w12.alloc (.cells #[Value.int IntKind.u8 0, Value.int IntKind.u8 0, Value.int IntKind.u8 0, Value.int IntKind.u8 0, Value.int IntKind.u8 0, Value.int IntKind.u8 0, Value.int IntKind.u8 0, Value.int IntKind.u8 0, Value.int IntKind.u8 0, Value.int IntKind.u8 0, Value.int IntKind.u8 0, Value.int IntKind.u8 0, Value.int IntKind.u8 0, Value.int IntKind.u8 0, Value.int IntKind.u8 0, Value.int IntKind.u8 0, Value.int IntKind.u8 0, Value.int IntKind.u8 0, Value.int IntKind.u8 0, Value.int IntKind.u8 0, Value.int IntKind.u8 0, Value.int IntKind.u8 0, Value.int IntKind.u8 0, Value.int IntKind.u8 0, Value.int IntKind.u8 0, Value.int IntKind.u8 0, Value.int IntKind.u8 0, Value.int IntKind.u8 0, Value.int IntKind.u8 0, Value.int IntKind.u8 0, Value.int IntKind.u8 0, Value.int IntKind.u8 0] 24) = w13 at *
            refine hid ?_
            refine wpList_store_row rfl 24 (.tmp 10) (.tmp 53) rfl w12.heap.size _ rfl rfl 24 _ HO1x.out (by rw [List.size_toArray, List.length_map, HS2L.out]; kernel_rfl) (by show 32 = (S2.map (Value.int .u8)).length; rw [List.length_map, HS2L.out]) (map_one _) ?_
            have HSEx := hid (setRow_heap w13 w12.heap.size _ ((S2.map (Value.int .u8)).toArray) 24 _ HO1x.out)
            have HBEx := hid (below_setRow HB1x.out (Nat.le_refl _) ((S2.map (Value.int .u8)).toArray))
            clear HO1x HB1x
            generalize w13.setRow w12.heap.size ((S2.map (Value.int .u8)).toArray) = w14 at *
            have HRS2 : Hid (Rd w14 .u8 (some ⟨w12.heap.size, 0, none⟩) S2) := hid (Rd.row HSEx.out (by rw [HS2L.out]; omega))
            have HK14 := hid (HK12.out.below HBEx.out)
            have HW14 := hid (below_then HW12.out HBEx.out)
            have hw14 : wo.heap.size ≤ w14.heap.size := Nat.le_trans hw12 HBEx.out.size
            clear HSEx HBEx HK12 HW12
            generalize (S2.map (Value.int .u8)).toArray = SA2
            go_wp2_with (at_builtin; refine hold ?_)
            refine hid ?_
            refine wpList_app2 rfl _ _ 22 5 .u8 1 rfl elemB wo.heap.size (.slice A8 64 c8) K9 rfl HK14.out (some ⟨w12.heap.size, 0, none⟩) 32 32 S2 rfl HS2L.out (fun h => by simp at h) HRS2.out (by rw [HL92.out]; omega) (by rw [HL92.out]; simp [maxLen]) hw14 ?_
            intro v15 w15 ho15 hg15 hat15
            have hb15 : Below wo.heap.size w14 w15 := below_app hg15 (fun q hq => (HK14.out.lt q hq).1)
            have hl15 : (K9 ++ S2).length = 96 := by rw [List.length_append, HL92.out, HS2L.out]
            obtain ⟨A15, c15, rfl, hA15, hR15, _⟩ := ho15.rd (by rw [hl15]; omega)
            rw [hl15]
            have HW15 := hid (below_more HW14.out hb15 hwo)
            have HR15 := hid hR15; have HA15 := hid hA15; have HL15 := hid hl15
            clear ho15 hg15 hat15 hb15 hR15 hA15 hl15 HK14 HW14 HRS2
            go_wp2_with (go_at_call 16; refine hold ?_)
            refine hid ?_
            refine Calls.mono (rsum_calls c15 96 A15 (K9 ++ S2) HL15.out w15 HR15.out HA15.out (HB92.out.append HS2B.out) (by omega)) ?_
            rintro e w16 ⟨rfl, hB16⟩
            have HW16 := hid (below_then HW15.out hB16)
            have HO16 : Hid (w16.heap[w.heap.size]? = some (.cells #[Value.int IntKind.u8 0, Value.int IntKind.u8 0, Value.int IntKind.u8 0, Value.int IntKind.u8 0, Value.int IntKind.u8 0, Value.int IntKind.u8 0, Value.int IntKind.u8 0, Value.int IntKind.u8 0, Value.int IntKind.u8 0, Value.int IntKind.u8 0, Value.int IntKind.u8 0, Value.int IntKind.u8 0, Value.int IntKind.u8 0, Value.int IntKind.u8 0, Value.int IntKind.u8 0, Value.int IntKind.u8 0, Value.int IntKind.u8 0, Value.int IntKind.u8 0, Value.int IntKind.u8 0, Value.int IntKind.u8 0, Value.int IntKind.u8 0, Value.int IntKind.u8 0, Value.int IntKind.u8 0, Value.int IntKind.u8 0, Value.int IntKind.u8 0, Value.int IntKind.u8 0, Value.int IntKind.u8 0, Value.int IntKind.u8 0, Value.int IntKind.u8 0, Value.int IntKind.u8 0, Value.int IntKind.u8 0, Value.int IntKind.u8 0] 24 (0, 0))) := hid ((HW16.out.block _ hla).trans HOa.out)
            have HV16 := hid (below_then HBa.out HW16.out)
            clear hB16 HW15 HW16 HR15 HA15 HL15
            obtain ⟨R, hR⟩ : ∃ R, R = ((sha (K9 ++ S2)).map (Value.int .u8)).toArray := ⟨_, rfl⟩
            rw [← hR]
            have HRR : Box (R = ((mac key bs).map (Value.int .u8)).toArray) := ⟨by rw [HM.out]; exact hR⟩
            have HHS : Hid (R.size = 32) := hid (by rw [hR]; exact sha_size _)
            have HHO : Hid (R.all (·.oneCell') = true) := hid (by rw [hR]; exact sha_one _)
            clear hR
            go_wp2_with (with_reducible refine hold_op (o := ⟨none, _, _, _, _, _⟩) ?_)
            refine hid ?_
            refine wpList_store_row rfl 24 (.tmp 4) (.tmp 57) rfl w.heap.size R rfl rfl 24 _ HO16.out (by rw [HHS.out]; kernel_rfl) HHS.out.symm HHO.out ?_
            have HO5x := hid (setRow_heap w16 w.heap.size _ R 24 _ HO16.out)
            have HB5x := hid (below_setRow HV16.out (Nat.le_refl _) R)
            clear HO16 HV16
            generalize w16.setRow w.heap.size R = wz at *
            go_wp2
            refine bodyPost_ret (v := .agg R) ?_ rfl ⟨by rw [HRR.out], HB5x.out⟩
            exact results_cell_row (p := 4) rfl _ wz w.heap.size 24 R (0, 0) _ rfl HO5x.out Tryd.underlying24 rfl (by rw [HHS.out]; kernel_rfl)
end Go.Proofs.YtaieajfgcnaedaaDoor
