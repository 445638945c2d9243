/-
  LAYER 5, THE REFERENCE's WALKS: Sum.
-/
import Derived.Test.YtaieajfgcnaedaaDoorHashRC
import Derived.StillTailTactics
set_option linter.unusedVariables false
set_option linter.unusedSimpArgs false
namespace Go.Proofs.YtaieajfgcnaedaaDoor
open Go.RowKit
attribute [local go_sem] u_xor u_and u_or u_not u_add u_wadd u_sh u_mod u_compl u_wrap

theorem padding_len (n : Nat) : (n + (padding n).length) % 64 = 0 := by
  have : (padding n).length = padLen n + 9 := by unfold padding; simp [be8]
  rw [this]; unfold padLen; omega
theorem padding_bytes (n : Nat) : Bytes (padding n) := by
  unfold padding
  refine Bytes.cons (by omega) (by omega) (Bytes.append (fun x hx => by rw [List.eq_of_mem_replicate hx]; omega) ?_)
  rw [← be_len]; exact be_bytes _ _
theorem V8.list_at (v : V8) : (v.list.map uw) = [uw v.a, uw v.b, uw v.c, uw v.d, uw v.e, uw v.f, uw v.g, uw v.h] := rfl
theorem V8.cells_list (v : V8) : v.cells = ((v.list.map uw).map (Value.int .u32)).toArray := rfl
theorem V8.cells_set (v u : V8) (k : Nat) (h : k < 8) : ((((addK v u k).map uw).map (Value.int .u32)).toArray).setIfInBounds k (.int .u32 (uw (v.list.getD k 0 + u.list.getD k 0))) = (((addK v u (k + 1)).map uw).map (Value.int .u32)).toArray := by
  rw [← addK_succ v u k h]
  apply Array.ext'
  simp only [Array.toList_setIfInBounds]
  rw [List.map_set, List.map_set]
theorem list_byte (V : V8) (q m : Nat) (hq : q < 8) (hm : m < 4) : V.bytes.getD (4 * q + m) 0 = (wordBytes (V.list.getD q 0)).getD m 0 := by
  rcases (show q = 0 ∨ q = 1 ∨ q = 2 ∨ q = 3 ∨ q = 4 ∨ q = 5 ∨ q = 6 ∨ q = 7 by omega) with rfl | rfl | rfl | rfl | rfl | rfl | rfl | rfl <;>
    rcases (show m = 0 ∨ m = 1 ∨ m = 2 ∨ m = 3 by omega) with rfl | rfl | rfl | rfl <;> rfl
theorem bytes_at (V : V8) (i : Nat) (h : i < 32) : uw (V.list.getD (i / 4) 0) / 2 ^ (8 * (3 - i % 4)) % 256 = V.bytes.getD i 0 := by
  have e : i = 4 * (i / 4) + i % 4 := by omega
  have hb := list_byte V (i / 4) (i % 4) (by omega) (by omega)
  rw [← e] at hb
  rw [hb, ← be_word]
  unfold be
  have hm : i % 4 < 4 := Nat.mod_lt _ (by decide)
  have h2 : (2 : Int) ^ (8 * (3 - i % 4)) = 256 ^ (3 - i % 4) := by rw [Int.pow_mul]; rfl
  rw [h2]
  simp [List.getD_eq_getElem?_getD, hm]
theorem out_at (V : V8) (i : Nat) (h : i < 32) : (((V.bytes.take i ++ List.replicate (32 - i) 0).map (Value.int .u8)).toArray)[i]? = some (.int .u8 0) := by
  have hl : (V.bytes.take i).length = i := by rw [List.length_take, bytes_length]; omega
  have h2 : 0 < 32 - i := by omega
  simp [List.getElem?_append_right, List.getElem?_map, hl, h2, List.length_take, bytes_length, show min i 32 = i by omega]
theorem out_set (V : V8) (i : Nat) (h : i < 32) : (((V.bytes.take i ++ List.replicate (32 - i) 0).map (Value.int .u8)).toArray).setIfInBounds i (.int .u8 (V.bytes.getD i 0)) = ((V.bytes.take (i + 1) ++ List.replicate (32 - (i + 1)) 0).map (Value.int .u8)).toArray := by
  have hl : (V.bytes.take i).length = i := by rw [List.length_take, bytes_length]; omega
  have hi : i < V.bytes.length := by rw [bytes_length]; exact h
  apply Array.ext'
  simp only [Array.toList_setIfInBounds]
  apply List.ext_getElem
  · simp [bytes_length]; omega
  · intro j h1 h2
    have hj32 : j < 32 := by simp [bytes_length] at h1; omega
    rw [List.getElem_set]
    have n1 : min i 32 = i := by omega
    have n2 : min (i + 1) 32 = i + 1 := by omega
    by_cases e : i = j
    · subst e; simp [List.getElem_append, bytes_length, List.getD_eq_getElem?_getD, List.getElem?_eq_getElem hi, n2]
    · by_cases hj : j < i
      · simp [List.getElem_append, bytes_length, e, n1, n2, hj, show j < i + 1 by omega]
      · simp [List.getElem_append, bytes_length, e, n1, n2, hj, show ¬ j < i + 1 by omega]
theorem rd_word {w : World} {g : Nat} {ws : List W32} (h : Rd w .u32 (some ⟨g, 0, none⟩) (ws.map uw)) (i : Nat) (hi : i < ws.length) : w.cell? ⟨g, i, none⟩ = some (.int .u32 (uw (ws.getD i 0))) := by
  have := h.cell i (by rw [List.length_map]; exact hi)
  rw [Nat.zero_add] at this
  rw [this]
  simp [List.getD_eq_getElem?_getD, hi]
set_option maxHeartbeats 25600000 in
set_option maxRecDepth 100000 in
theorem rsum_calls (c n : Nat) (A : Option Addr) (xs : List Int) (hn : xs.length = n) (w : World) (hR : Rd w .u8 A xs) (hA : A = none → c = 0) (hb : Bytes xs) (hl : n ≤ 140737488354000) :
    Calls Tryd.prog 16 #[.slice A n c] w fun e w' => e = .returned (.agg (((sha xs).map (Value.int .u8)).toArray)) ∧ Below w.heap.size w w' := by
  have HR := hid hR; have HA := hid hA; have HBy := hid hb; have HN := hid hn
  clear hR hA hb hn
  go_enter Tryd.func16, Tryd.ntmps16
  go_wp2_with (go_at_call 34; refine hold ?_)
  have hO0 : (w.alloc (.cells #[Value.int IntKind.u8 0, Value.int IntKind.u8 0, Value.int IntKind.u8 0, Value.int IntKind.u8 0, Value.int IntKind.u8 0, Value.int IntKind.u8 0, Value.int IntKind.u8 0, Value.int IntKind.u8 0, Value.int IntKind.u8 0, Value.int IntKind.u8 0, Value.int IntKind.u8 0, Value.int IntKind.u8 0, Value.int IntKind.u8 0, Value.int IntKind.u8 0, Value.int IntKind.u8 0, Value.int IntKind.u8 0, Value.int IntKind.u8 0, Value.int IntKind.u8 0, Value.int IntKind.u8 0, Value.int IntKind.u8 0, Value.int IntKind.u8 0, Value.int IntKind.u8 0, Value.int IntKind.u8 0, Value.int IntKind.u8 0, Value.int IntKind.u8 0, Value.int IntKind.u8 0, Value.int IntKind.u8 0, Value.int IntKind.u8 0, Value.int IntKind.u8 0, Value.int IntKind.u8 0, Value.int IntKind.u8 0, Value.int IntKind.u8 0] 24)).heap[w.heap.size]? = some (.cells #[Value.int IntKind.u8 0, Value.int IntKind.u8 0, Value.int IntKind.u8 0, Value.int IntKind.u8 0, Value.int IntKind.u8 0, Value.int IntKind.u8 0, Value.int IntKind.u8 0, Value.int IntKind.u8 0, Value.int IntKind.u8 0, Value.int IntKind.u8 0, Value.int IntKind.u8 0, Value.int IntKind.u8 0, Value.int IntKind.u8 0, Value.int IntKind.u8 0, Value.int IntKind.u8 0, Value.int IntKind.u8 0, Value.int IntKind.u8 0, Value.int IntKind.u8 0, Value.int IntKind.u8 0, Value.int IntKind.u8 0, Value.int IntKind.u8 0, Value.int IntKind.u8 0, Value.int IntKind.u8 0, Value.int IntKind.u8 0, Value.int IntKind.u8 0, Value.int IntKind.u8 0, Value.int IntKind.u8 0, Value.int IntKind.u8 0, Value.int IntKind.u8 0, Value.int IntKind.u8 0, Value.int IntKind.u8 0, Value.int IntKind.u8 0] 24 (0, 0)) := heap_alloc_new _ _
  have hB0 : Below w.heap.size w (w.alloc (.cells #[Value.int IntKind.u8 0, Value.int IntKind.u8 0, Value.int IntKind.u8 0, Value.int IntKind.u8 0, Value.int IntKind.u8 0, Value.int IntKind.u8 0, Value.int IntKind.u8 0, Value.int IntKind.u8 0, Value.int IntKind.u8 0, Value.int IntKind.u8 0, Value.int IntKind.u8 0, Value.int IntKind.u8 0, Value.int IntKind.u8 0, Value.int IntKind.u8 0, Value.int IntKind.u8 0, Value.int IntKind.u8 0, Value.int IntKind.u8 0, Value.int IntKind.u8 0, Value.int IntKind.u8 0, Value.int IntKind.u8 0, Value.int IntKind.u8 0, Value.int IntKind.u8 0, Value.int IntKind.u8 0, Value.int IntKind.u8 0, Value.int IntKind.u8 0, Value.int IntKind.u8 0, Value.int IntKind.u8 0, Value.int IntKind.u8 0, Value.int IntKind.u8 0, Value.int IntKind.u8 0, Value.int IntKind.u8 0, Value.int IntKind.u8 0] 24)) := (Below.refl _ _).alloc (Nat.le_refl _) _
  have HOa := hid hO0; have HBa := hid hB0
  clear hO0 hB0
  generalize w.alloc (.cells #[Value.int IntKind.u8 0, Value.int IntKind.u8 0, Value.int IntKind.u8 0, Value.int IntKind.u8 0, Value.int IntKind.u8 0, Value.int IntKind.u8 0, Value.int IntKind.u8 0, Value.int IntKind.u8 0, Value.int IntKind.u8 0, Value.int IntKind.u8 0, Value.int IntKind.u8 0, Value.int IntKind.u8 0, Value.int IntKind.u8 0, Value.int IntKind.u8 0, Value.int IntKind.u8 0, Value.int IntKind.u8 0, Value.int IntKind.u8 0, Value.int IntKind.u8 0, Value.int IntKind.u8 0, Value.int IntKind.u8 0, Value.int IntKind.u8 0, Value.int IntKind.u8 0, Value.int IntKind.u8 0, Value.int IntKind.u8 0, Value.int IntKind.u8 0, Value.int IntKind.u8 0, Value.int IntKind.u8 0, Value.int IntKind.u8 0, Value.int IntKind.u8 0, Value.int IntKind.u8 0, Value.int IntKind.u8 0, Value.int IntKind.u8 0] 24) = wa at *
  refine hid ?_
  refine Calls.mono (whole_calls c n A xs HN.out wa (HR.out.below HBa.out) HA.out HBy.out hl) ?_
  rintro e wb ⟨v1, rfl, ho1, hB1⟩
  have hpl := padLen_lt n
  have hpn : (padding n).length = padLen n + 9 := by unfold padding; simp [be8]
  have hpm := padding_len n
  obtain ⟨ALL, hALL⟩ : ∃ ALL, ALL = xs ++ padding n := ⟨_, rfl⟩
  rw [← hALL] at ho1
  obtain ⟨LA, hLA⟩ : ∃ LA, LA = ALL.length := ⟨_, rfl⟩
  have hLn : LA = n + (padding n).length := by rw [hLA, hALL, List.length_append, HN.out]
  have hLb : LA ≤ 140737488354100 := by omega
  have hLm : LA % 64 = 0 := by rw [hLn]; exact hpm
  have hL1 : 64 ≤ LA := by omega
  obtain ⟨A1, c1, rfl, hA1, hR1, hb1⟩ := ho1.rd (by rw [← hLA]; omega)
  obtain ⟨ga, o1, rfl, hga⟩ := hR1.form 0 (by rw [← hLA]; omega)
  obtain rfl : o1 = 0 := (hb1 _ _ rfl).2
  have hgw := (hb1 _ _ rfl).1
  have hcap := ho1.cap'
  rw [← hLA] at hcap ⊢
  have HRA := hid hR1; have HBb := hid hB1
  have HALLB : Hid (Bytes ALL) := hid (by rw [hALL]; exact HBy.out.append (padding_bytes n))
  have HSHA : Box (sha xs = (absorb hInit ALL).1.bytes) := ⟨by unfold sha; rw [hALL, HN.out]⟩
  have HLA := hid hLA
  clear ho1 hA1 hR1 hb1 hB1 hALL hLA hLn hpn hpm hpl
  have hcm := hcap.2
  have hcl := hcap.1
  unfold maxLen at hcm
  clear hcap
  go_wp2_with (go_at_call 35; refine hold ?_)
  refine hid ?_
  refine Calls.mono (roots_calls wb) ?_
  rintro e wc ⟨gk, rfl, hgk, hRk, hBc⟩
  have HRk := hid hRk; have HBc := hid hBc
  have hgkl : gk < wc.heap.size := HRk.out.under (by simp [kTab]) rfl
  clear hRk hBc
  go_wp2_with fail
  have hL0 : (wc.alloc (.cells #[Value.int IntKind.u32 1779033703, Value.int IntKind.u32 3144134277, Value.int IntKind.u32 1013904242, Value.int IntKind.u32 2773480762, Value.int IntKind.u32 1359893119, Value.int IntKind.u32 2600822924, Value.int IntKind.u32 528734635, Value.int IntKind.u32 1541459225] 38)).heap[wc.heap.size]? = some (.cells hInit.cells 38 (0, 0)) := heap_alloc_new _ _
  have hBl : Below wc.heap.size wc (wc.alloc (.cells #[Value.int IntKind.u32 1779033703, Value.int IntKind.u32 3144134277, Value.int IntKind.u32 1013904242, Value.int IntKind.u32 2773480762, Value.int IntKind.u32 1359893119, Value.int IntKind.u32 2600822924, Value.int IntKind.u32 528734635, Value.int IntKind.u32 1541459225] 38)) := (Below.refl _ _).alloc (Nat.le_refl _) _
  have HL0 := hid hL0; have HBl := hid hBl
  clear hL0 hBl
  generalize wc.alloc (.cells #[Value.int IntKind.u32 1779033703, Value.int IntKind.u32 3144134277, Value.int IntKind.u32 1013904242, Value.int IntKind.u32 2773480762, Value.int IntKind.u32 1359893119, Value.int IntKind.u32 2600822924, Value.int IntKind.u32 528734635, Value.int IntKind.u32 1541459225] 38) = wd at *
  have hla := HBa.out.size
  have hlab : w.heap.size < wa.heap.size := lt_of_block HOa.out
  have hlb := HBb.out.size
  have hlc := HBc.out.size
  have hld : wc.heap.size < wd.heap.size := lt_of_block HL0.out
  have HWd : Hid (Below w.heap.size w wd) := hid (below_then HBa.out (below_then HBb.out (below_then HBc.out HBl.out)))
  have HOd : Hid (wd.heap[w.heap.size]? = some (.cells #[Value.int IntKind.u8 0, Value.int IntKind.u8 0, Value.int IntKind.u8 0, Value.int IntKind.u8 0, Value.int IntKind.u8 0, Value.int IntKind.u8 0, Value.int IntKind.u8 0, Value.int IntKind.u8 0, Value.int IntKind.u8 0, Value.int IntKind.u8 0, Value.int IntKind.u8 0, Value.int IntKind.u8 0, Value.int IntKind.u8 0, Value.int IntKind.u8 0, Value.int IntKind.u8 0, Value.int IntKind.u8 0, Value.int IntKind.u8 0, Value.int IntKind.u8 0, Value.int IntKind.u8 0, Value.int IntKind.u8 0, Value.int IntKind.u8 0, Value.int IntKind.u8 0, Value.int IntKind.u8 0, Value.int IntKind.u8 0, Value.int IntKind.u8 0, Value.int IntKind.u8 0, Value.int IntKind.u8 0, Value.int IntKind.u8 0, Value.int IntKind.u8 0, Value.int IntKind.u8 0, Value.int IntKind.u8 0, Value.int IntKind.u8 0] 24 (0, 0))) := hid ((HBl.out.block _ (by omega)).trans ((HBc.out.block _ (by omega)).trans ((HBb.out.block _ (by omega)).trans HOa.out)))
  have HRAd := hid ((HRA.out.below HBc.out).below HBl.out)
  have HRkd := hid (HRk.out.below HBl.out)
  have HHI : Box (hInit.cells = hInit.cells) := ⟨rfl⟩
  obtain ⟨V0, hV0⟩ : ∃ V0, V0 = hInit := ⟨_, rfl⟩
  rw [← hV0] at HL0 HSHA
  clear hV0 HHI HRA HRk HBa HBb HBc HBl HOa
  go_loopw [6] (fun s6 w' => ∃ (p : Nat) (V : V8), p ≤ LA ∧ p % 64 = 0 ∧ s6 = .int .i64 p ∧ w'.heap[wc.heap.size]? = some (.cells V.cells 38 (0, 0)) ∧ absorb V (ALL.drop p) = absorb V0 ALL ∧ wd.grownBy w' (some wc.heap.size)) (fun s6 _ => LA - (intOf s6).toNat)
  case atStart => exact ⟨0, V0, by omega, rfl, rfl, HL0.out, rfl, World.grownBy.refl _ _⟩
  case round =>
    obtain ⟨p, V, hp, hpm, rfl, hlr, hab, hgr⟩ := hrel
    have HLr := hid hlr; have HAB : Box (absorb V (ALL.drop p) = absorb V0 ALL) := ⟨hab⟩; have HGr := hid hgr
    clear hlr hab hgr HL0
    by_cases hlt : p < LA
    · have hp64 : p + 64 ≤ LA := by omega
      have q0 : (0 : Int) ≤ (p : Int) := by omega
      have q1 : (p : Int) < (LA : Int) := by omega
      have q2 : (p : Int) ≤ (p : Int) + 64 := by omega
      have q3 : (p : Int) + 64 ≤ (c1 : Int) := by omega
      have q4 : ((p : Int) + 64).toNat = p + 64 := by omega
      have q5 : ¬ c1 = p := by omega
      have q6 : p + 64 - p = 64 := by omega
      go_wp2_with (go_at_call 36; refine hold ?_)
      refine hid ?_
      have hBL : ((ALL.drop p).take 64).length = 64 := by rw [List.length_take, List.length_drop, ← HLA.out]; omega
      have hRr := HRAd.out.kept HGr.out (fun b o e h => by injection e with e; injection e with e1 e2; injection h with h; omega)
      have hRB := (hRr.drop p).take 64
      rw [Nat.zero_add] at hRB
      have hBB := bytes_take (bytes_drop HALLB.out p) 64
      obtain ⟨BK, hBK⟩ : ∃ BK, BK = (ALL.drop p).take 64 := ⟨_, rfl⟩
      rw [← hBK] at hBL hRB hBB
      have HDR : Box (absorb (compress V BK) (ALL.drop (p + 64)) = absorb V0 ALL) := ⟨by
        rw [← HAB.out, absorb_ge (xs := ALL.drop p) (by rw [List.length_drop, ← HLA.out]; omega), List.drop_drop, hBK]⟩
      clear hRr hBK HAB
      refine Calls.mono (schedule_calls (c1 - p) _ BK hBL wr hRB hBB (by omega)) ?_
      rintro e we ⟨v7, rfl, ho7, hB7⟩
      have hCO : compress V BK = addV V (rounds8 (sched BK 64) V 64) := rfl
      have hSL := sched_len BK 64
      obtain ⟨SC, hSC⟩ : ∃ SC, SC = sched BK 64 := ⟨_, rfl⟩
      rw [← hSC] at ho7 hCO hSL
      rw [hCO] at HDR
      clear hSC hCO hRB hBB hBL
      have hsm : (SC.map uw).length = 64 := by rw [List.length_map]; exact hSL
      obtain ⟨A7, c7, rfl, hA7, hR7, hb7⟩ := ho7.rd (by rw [hsm]; omega)
      obtain ⟨gw, o7, rfl, hgw7⟩ := hR7.form 0 (by rw [hsm]; omega)
      obtain rfl : o7 = 0 := (hb7 _ _ rfl).2
      rw [hsm]
      have HRw := hid hR7; have HB7 := hid hB7; have HSL := hid hSL
      clear ho7 hA7 hR7 hb7 hB7 hsm hSL q0 q1 q2 q3 q4 q5 q6
      have hRl : Rd we .u32 (some ⟨wc.heap.size, 0, none⟩) (V.list.map uw) := (Rd.row (t := 38) HLr.out (by simp [V8.list])).below HB7.out
      have HLe := hid ((HB7.out.block _ (lt_of_block HLr.out)).trans HLr.out)
      have HGe := hid (grown_trans HGr.out (grown_below (row := some wc.heap.size) HB7.out))
      have HRl := hid hRl
      clear hRl HLr HGr HB7
      go_wp2_with (at_builtin; refine hold ?_)
      refine hid ?_
      refine wpList_app2 rfl _ _ 67 38 .u32 4 rfl elemW we.heap.size _ [] rfl (Own.lit we 38 .u32 we.heap.size (Nat.le_refl _) [] #[] 0 rfl rfl (by decide)) (some ⟨wc.heap.size, 0, none⟩) 8 8 (V.list.map uw) rfl rfl (fun h => by simp at h) (HRl.out.below ((Below.refl _ _).alloc (Nat.le_refl _) _)) (by simp) (by simp [maxLen]) (by simp) ?_
      intro v8 wf ho8 hg8 hat8
      have hB8 : Below we.heap.size we wf := below_own ((Below.refl _ _).alloc (Nat.le_refl _) _) hg8 (fun q hq => Nat.le_of_eq (Option.some.inj hq))
      rw [List.nil_append] at ho8
      obtain ⟨A8, c8, rfl, hA8, hR8, hb8⟩ := ho8.rd (by simp [V8.list])
      obtain ⟨gv, o8, rfl, hgv8⟩ := hR8.form 0 (by simp [V8.list])
      obtain rfl : o8 = 0 := (hb8 _ _ rfl).2
      have hgve := (hb8 _ _ rfl).1
      have hl8 : (V.list.map uw).length = 8 := rfl
      rw [hl8]
      have HLf := hid ((hB8.block _ (lt_of_block HLe.out)).trans HLe.out)
      have HGf := hid (grown_trans HGe.out (grown_below (row := some wc.heap.size) hB8))
      have HRwf := hid (HRw.out.below hB8)
      have HRv := hid hR8
      have hgwf : gw < wf.heap.size := Nat.lt_of_lt_of_le hgw7 hB8.size
      have hglf : wc.heap.size < wf.heap.size := lt_of_block HLf.out
      have hgkf : gk < wf.heap.size := by omega
      have HRkf := hid (HRkd.out.kept HGf.out (fun b o e h => by injection e with e; injection e with e1 e2; injection h with h; omega))
      have hgvl : gv ≠ wc.heap.size := by have := lt_of_block HLe.out; omega
      clear ho8 hg8 hat8 hA8 hR8 hb8 hB8 HLe HGe HRw HRl hl8
      go_wp2_with fail
      go_loopw [8, 9] (fun s8 s9 w' => ∃ k : Nat, k ≤ 64 ∧ s9 = .int .i64 k ∧ (∃ g8 cv, s8 = .slice (some ⟨g8, 0, none⟩) 8 cv ∧ g8 ≠ wc.heap.size ∧ Rd w' .u32 (some ⟨g8, 0, none⟩) ((rounds8 SC V k).list.map uw)) ∧ Below wf.heap.size wf w') (fun _ s9 _ => 64 - (intOf s9).toNat)
      case atStart => exact ⟨0, by omega, rfl, ⟨gv, c8, rfl, hgvl, HRv.out⟩, Below.refl _ _⟩
      case round =>
        obtain ⟨k, hk, rfl, ⟨g8, cv, rfl, hg8l, hrv⟩, hbf⟩ := hrel
        have HRv2 := hid hrv; have HBf := hid hbf
        clear hrv hbf HRv
        by_cases hlk : k < 64
        · have hk0 : (0 : Int) ≤ (k : Int) := by omega
          have hk1 : (k : Int) < 64 := by omega
          have hg8w : g8 < wr.heap.size := HRv2.out.under (by show 0 < 8; omega) rfl
          have kk : wr.cell? ⟨gk, k, none⟩ = some (.int .u32 (uw (kTab.getD k 0))) := rd_word (HRkf.out.below HBf.out) k hlk
          have wk : wr.cell? ⟨gw, k, none⟩ = some (.int .u32 (uw (SC.getD k 0))) := rd_word (HRwf.out.below HBf.out) k (by rw [HSL.out]; exact hlk)
          have HST : Box (rounds8 SC V (k + 1) = step (rounds8 SC V k) (kTab.getD k 0) (SC.getD k 0)) := ⟨rfl⟩
          generalize kTab.getD k 0 = K at *
          generalize SC.getD k 0 = Wk at *
          generalize rounds8 SC V k = R0 at *
          obtain ⟨ra, rb, rc, rd, re, rf, rg, rh⟩ := R0
          have r0 : wr.cell? ⟨g8, 0, none⟩ = some (.int .u32 (uw ra)) := rd_word HRv2.out 0 (by show 0 < 8; omega)
          have r1 : wr.cell? ⟨g8, 1, none⟩ = some (.int .u32 (uw rb)) := rd_word HRv2.out 1 (by show 1 < 8; omega)
          have r2 : wr.cell? ⟨g8, 2, none⟩ = some (.int .u32 (uw rc)) := rd_word HRv2.out 2 (by show 2 < 8; omega)
          have r3 : wr.cell? ⟨g8, 3, none⟩ = some (.int .u32 (uw rd)) := rd_word HRv2.out 3 (by show 3 < 8; omega)
          have r4 : wr.cell? ⟨g8, 4, none⟩ = some (.int .u32 (uw re)) := rd_word HRv2.out 4 (by show 4 < 8; omega)
          have r5 : wr.cell? ⟨g8, 5, none⟩ = some (.int .u32 (uw rf)) := rd_word HRv2.out 5 (by show 5 < 8; omega)
          have r6 : wr.cell? ⟨g8, 6, none⟩ = some (.int .u32 (uw rg)) := rd_word HRv2.out 6 (by show 6 < 8; omega)
          have r7 : wr.cell? ⟨g8, 7, none⟩ = some (.int .u32 (uw rh)) := rd_word HRv2.out 7 (by show 7 < 8; omega)
          clear HRv2
          go_wp2_with fail
          go_quiet (first
            | (go_at_call_of 37 (Value.int IntKind.i64 6); refine Calls.quiet_of ((turn6 re _).mono fun e w' h => ⟨h.1, 1, h.2⟩))
            | (go_at_call_of 37 (Value.int IntKind.i64 11); refine Calls.quiet_of ((turn11 re _).mono fun e w' h => ⟨h.1, 1, h.2⟩))
            | (go_at_call_of 37 (Value.int IntKind.i64 25); refine Calls.quiet_of ((turn25 re _).mono fun e w' h => ⟨h.1, 1, h.2⟩)))
          go_wp2_with fail
          have s0 : (wr.drewN nq).cell? ⟨g8, 0, none⟩ = some (.int .u32 (uw ra)) := r0
          have s1 : (wr.drewN nq).cell? ⟨g8, 1, none⟩ = some (.int .u32 (uw rb)) := r1
          have s2 : (wr.drewN nq).cell? ⟨g8, 2, none⟩ = some (.int .u32 (uw rc)) := r2
          have s3 : (wr.drewN nq).cell? ⟨g8, 3, none⟩ = some (.int .u32 (uw rd)) := r3
          have s4 : (wr.drewN nq).cell? ⟨g8, 4, none⟩ = some (.int .u32 (uw re)) := r4
          have s5 : (wr.drewN nq).cell? ⟨g8, 5, none⟩ = some (.int .u32 (uw rf)) := r5
          have s6 : (wr.drewN nq).cell? ⟨g8, 6, none⟩ = some (.int .u32 (uw rg)) := r6
          have HB1 : Hid (Below wf.heap.size wf (wr.drewN nq)) := hid (below_drewN HBf.out nq)
          clear r0 r1 r2 r3 r4 r5 r6 r7 kk wk HBf
          have hg8w1 : g8 < (wr.drewN nq).heap.size := hg8w
          generalize wr.drewN nq = W1 at *
          go_quiet (first
            | (go_at_call_of 37 (Value.int IntKind.i64 2); refine Calls.quiet_of ((turn2 ra _).mono fun e w' h => ⟨h.1, 1, h.2⟩))
            | (go_at_call_of 37 (Value.int IntKind.i64 13); refine Calls.quiet_of ((turn13 ra _).mono fun e w' h => ⟨h.1, 1, h.2⟩))
            | (go_at_call_of 37 (Value.int IntKind.i64 22); refine Calls.quiet_of ((turn22 ra _).mono fun e w' h => ⟨h.1, 1, h.2⟩)))
          go_wp2_with fail
          have z0 : (W1.drewN nq).cell? ⟨g8, 0, none⟩ = some (.int .u32 (uw ra)) := s0
          have z1 : (W1.drewN nq).cell? ⟨g8, 1, none⟩ = some (.int .u32 (uw rb)) := s1
          have z2 : (W1.drewN nq).cell? ⟨g8, 2, none⟩ = some (.int .u32 (uw rc)) := s2
          have z3 : (W1.drewN nq).cell? ⟨g8, 3, none⟩ = some (.int .u32 (uw rd)) := s3
          have z4 : (W1.drewN nq).cell? ⟨g8, 4, none⟩ = some (.int .u32 (uw re)) := s4
          have z5 : (W1.drewN nq).cell? ⟨g8, 5, none⟩ = some (.int .u32 (uw rf)) := s5
          have z6 : (W1.drewN nq).cell? ⟨g8, 6, none⟩ = some (.int .u32 (uw rg)) := s6
          have HB2 : Hid (Below wf.heap.size wf (W1.drewN nq)) := hid (below_drewN HB1.out nq)
          clear s0 s1 s2 s3 s4 s5 s6 HB1
          have hg8w2 : g8 < (W1.drewN nq).heap.size := hg8w1
          generalize W1.drewN nq = W2 at *
          refine wp_region_still_tail 26 (by kernel_rfl) (by kernel_rfl) ?_
          simp only [List.take_succ_cons, List.take_zero, List.drop_succ_cons, List.drop_zero]
          change wpStill _ _ W2.drew _ _ _
          repeat still_step
          refine wpStill_nil ?_
          go_wp2_with fail
          go_roundw
          case rel =>
            refine ⟨k + 1, by omega, by go_num, ⟨_, _, rfl, ?_, ?_⟩, ?_⟩
            · have := HB2.out.size; omega
            · rw [HST.out]; exact (Rd.lit rfl (by simp [V8.list])).below (Below.refl _ _).drew
            · exact (HB2.out.alloc HB2.out.size _).drew
          case measure => simp [intOf]; omega
        · obtain rfl : k = 64 := by omega
          clear hlk hk
          obtain ⟨R, hRe⟩ : ∃ R, R = rounds8 SC V 64 := ⟨_, rfl⟩
          have hdr := HDR.out
          have hrv := HRv2.out
          rw [← hRe] at hdr hrv
          have HDR2 : Box (absorb (addV V R) (ALL.drop (p + 64)) = absorb V0 ALL) := ⟨hdr⟩
          have HRv3 := hid hrv
          have HL3 : Hid (wr.heap[wc.heap.size]? = some (.cells ((((addK V R 0).map uw).map (Value.int .u32)).toArray) 38 (0, 0))) := hid ((HBf.out.block _ hglf).trans (by rw [addK_zero]; exact HLf.out))
          have HG3 := hid (grown_trans HGf.out (grown_below (row := some wc.heap.size) HBf.out))
          have hg8w : g8 < wr.heap.size := HRv3.out.under (by show 0 < 8; omega) rfl
          clear hdr hrv hRe HDR HRv2 HLf HGf HBf HRwf HRkf HSL
          go_wp2_with fail
          obtain ⟨wo, rfl⟩ : ∃ wo : World, wo = wr := ⟨_, rfl⟩
          try rw [show ((64 : Nat) : Int) = 64 from rfl]
          go_loopw [12] (fun s12 w' => ∃ k : Nat, k ≤ 8 ∧ s12 = .int .i64 k ∧ w'.heap[wc.heap.size]? = some (.cells ((((addK V R k).map uw).map (Value.int .u32)).toArray) 38 (0, 0)) ∧ Rd w' .u32 (some ⟨g8, 0, none⟩) (R.list.map uw) ∧ wd.grownBy w' (some wc.heap.size)) (fun s12 _ => 8 - (intOf s12).toNat)
          case atStart => exact ⟨0, by omega, rfl, HL3.out, HRv3.out, HG3.out⟩
          case round =>
            obtain ⟨k, hk, rfl, hlk2, hrk, hgk2⟩ := hrel
            have HL4 := hid hlk2; have HR4 := hid hrk; have HG4 := hid hgk2
            clear hlk2 hrk hgk2 HL3 HRv3 HG3
            by_cases hk8 : k < 8
            · have hk0 : (0 : Int) ≤ (k : Int) := by omega
              have hk1 : (k : Int) < 8 := by omega
              have c0 : wr.cell? ⟨wc.heap.size, k, none⟩ = some (.int .u32 (uw (V.list.getD k 0))) := cellOf HL4.out (by
                have hkl : k < (addK V R k).length := by rw [addK_len]; exact hk8
                rw [← addK_at V R k hk8]
                simp [List.getElem?_map, List.getElem?_eq_getElem hkl, List.getD_eq_getElem?_getD])
              have d0 : wr.cell? ⟨g8, k, none⟩ = some (.int .u32 (uw (R.list.getD k 0))) := rd_word HR4.out k hk8
              have f0 : wr.frozen? ⟨wc.heap.size, k, none⟩ = false := frozen_of_row _ _ _ _ _ HL4.out
              have HS : Box (((((addK V R k).map uw).map (Value.int .u32)).toArray).setIfInBounds k (.int .u32 (uw (V.list.getD k 0 + R.list.getD k 0))) = (((addK V R (k + 1)).map uw).map (Value.int .u32)).toArray) := ⟨V8.cells_set V R k hk8⟩
              generalize V.list.getD k 0 = P0 at *
              generalize R.list.getD k 0 = P1 at *
              go_wp2_with fail
              refine wp_region_still_tail 12 (by kernel_rfl) (by kernel_rfl) ?_
              simp only [List.take_succ_cons, List.take_zero, List.drop_succ_cons, List.drop_zero]
              change wpStill _ _ wr.drew _ _ _
              repeat still_step
              refine wpStill_nil ?_
              go_wp2_with fail
              go_roundw
              case rel =>
                have h2 := hs (i := k) (v := .int .u32 (uw (P0 + P1))) HL4.out
                rw [HS.out] at h2
                refine ⟨k + 1, by omega, by go_num, h2, ?_, grown_trans (grown_drewN HG4.out 1) (grown_set _ _ _ _)⟩
                exact HR4.out.kept (grown_trans (grown_drewN (World.grownBy.refl _ (some wc.heap.size)) 1) (grown_set _ _ _ _)) (fun b o e h => by injection e with e; injection e with e1 e2; injection h with h; omega)
              case measure => simp [intOf]; omega
            · obtain rfl : k = 8 := by omega
              clear hk8 hk
              have HL5 : Hid (wr.heap[wc.heap.size]? = some (.cells (addV V R).cells 38 (0, 0))) := hid (by have := HL4.out; rw [addK_eight] at this; exact this)
              clear HL4
              go_wp2_with fail
              go_roundw
              case rel => exact ⟨p + 64, addV V R, by omega, by omega, by go_num, HL5.out, HDR2.out, HG4.out⟩
              case measure => simp [intOf]; omega
    · obtain rfl : p = LA := by omega
      clear hlt hp
      have hfin : absorb V0 ALL = (V, []) := by
        rw [← HAB.out, List.drop_eq_nil_of_le (by rw [← HLA.out]; exact Nat.le_refl _)]
        exact absorb_nil V
      have HVB : Box (sha xs = V.bytes) := ⟨by rw [HSHA.out, hfin]⟩
      have HWr : Hid (Below w.heap.size w wr) := hid (HWd.out.grown HGr.out HWd.out.size (fun k hk => by injection hk with hk; omega))
      have HOr : Hid (wr.heap[w.heap.size]? = some (.cells #[Value.int IntKind.u8 0, Value.int IntKind.u8 0, Value.int IntKind.u8 0, Value.int IntKind.u8 0, Value.int IntKind.u8 0, Value.int IntKind.u8 0, Value.int IntKind.u8 0, Value.int IntKind.u8 0, Value.int IntKind.u8 0, Value.int IntKind.u8 0, Value.int IntKind.u8 0, Value.int IntKind.u8 0, Value.int IntKind.u8 0, Value.int IntKind.u8 0, Value.int IntKind.u8 0, Value.int IntKind.u8 0, Value.int IntKind.u8 0, Value.int IntKind.u8 0, Value.int IntKind.u8 0, Value.int IntKind.u8 0, Value.int IntKind.u8 0, Value.int IntKind.u8 0, Value.int IntKind.u8 0, Value.int IntKind.u8 0, Value.int IntKind.u8 0, Value.int IntKind.u8 0, Value.int IntKind.u8 0, Value.int IntKind.u8 0, Value.int IntKind.u8 0, Value.int IntKind.u8 0, Value.int IntKind.u8 0, Value.int IntKind.u8 0] 24 (0, 0))) := hid ((HGr.out.block _ (lt_of_block HOd.out) (fun h => by injection h with h; omega)).trans HOd.out)
      have hlwr : wc.heap.size < wr.heap.size := lt_of_block HLr.out
      clear hfin HAB HSHA HGr HRAd HRkd HWd HOd HALLB
      go_wp2_with (with_reducible refine hold_op (o := ⟨none, _, _, _, _, _⟩) ?_)
      have hA0 : (wr.alloc (.cells #[Value.int IntKind.u8 0, Value.int IntKind.u8 0, Value.int IntKind.u8 0, Value.int IntKind.u8 0, Value.int IntKind.u8 0, Value.int IntKind.u8 0, Value.int IntKind.u8 0, Value.int IntKind.u8 0, Value.int IntKind.u8 0, Value.int IntKind.u8 0, Value.int IntKind.u8 0, Value.int IntKind.u8 0, Value.int IntKind.u8 0, Value.int IntKind.u8 0, Value.int IntKind.u8 0, Value.int IntKind.u8 0, Value.int IntKind.u8 0, Value.int IntKind.u8 0, Value.int IntKind.u8 0, Value.int IntKind.u8 0, Value.int IntKind.u8 0, Value.int IntKind.u8 0, Value.int IntKind.u8 0, Value.int IntKind.u8 0, Value.int IntKind.u8 0, Value.int IntKind.u8 0, Value.int IntKind.u8 0, Value.int IntKind.u8 0, Value.int IntKind.u8 0, Value.int IntKind.u8 0, Value.int IntKind.u8 0, Value.int IntKind.u8 0] 24)).heap[wr.heap.size]? = some (.cells #[Value.int IntKind.u8 0, Value.int IntKind.u8 0, Value.int IntKind.u8 0, Value.int IntKind.u8 0, Value.int IntKind.u8 0, Value.int IntKind.u8 0, Value.int IntKind.u8 0, Value.int IntKind.u8 0, Value.int IntKind.u8 0, Value.int IntKind.u8 0, Value.int IntKind.u8 0, Value.int IntKind.u8 0, Value.int IntKind.u8 0, Value.int IntKind.u8 0, Value.int IntKind.u8 0, Value.int IntKind.u8 0, Value.int IntKind.u8 0, Value.int IntKind.u8 0, Value.int IntKind.u8 0, Value.int IntKind.u8 0, Value.int IntKind.u8 0, Value.int IntKind.u8 0, Value.int IntKind.u8 0, Value.int IntKind.u8 0, Value.int IntKind.u8 0, Value.int IntKind.u8 0, Value.int IntKind.u8 0, Value.int IntKind.u8 0, Value.int IntKind.u8 0, Value.int IntKind.u8 0, Value.int IntKind.u8 0, Value.int IntKind.u8 0] 24 (0, 0)) := heap_alloc_new _ _
      have hB2 : Below wr.heap.size wr (wr.alloc (.cells #[Value.int IntKind.u8 0, Value.int IntKind.u8 0, Value.int IntKind.u8 0, Value.int IntKind.u8 0, Value.int IntKind.u8 0, Value.int IntKind.u8 0, Value.int IntKind.u8 0, Value.int IntKind.u8 0, Value.int IntKind.u8 0, Value.int IntKind.u8 0, Value.int IntKind.u8 0, Value.int IntKind.u8 0, Value.int IntKind.u8 0, Value.int IntKind.u8 0, Value.int IntKind.u8 0, Value.int IntKind.u8 0, Value.int IntKind.u8 0, Value.int IntKind.u8 0, Value.int IntKind.u8 0, Value.int IntKind.u8 0, Value.int IntKind.u8 0, Value.int IntKind.u8 0, Value.int IntKind.u8 0, Value.int IntKind.u8 0, Value.int IntKind.u8 0, Value.int IntKind.u8 0, Value.int IntKind.u8 0, Value.int IntKind.u8 0, Value.int IntKind.u8 0, Value.int IntKind.u8 0, Value.int IntKind.u8 0, Value.int IntKind.u8 0] 24)) := (Below.refl _ _).alloc (Nat.le_refl _) _
      have HA0 := hid hA0; have HB2 := hid hB2
      clear hA0 hB2
      generalize wr.alloc (.cells #[Value.int IntKind.u8 0, Value.int IntKind.u8 0, Value.int IntKind.u8 0, Value.int IntKind.u8 0, Value.int IntKind.u8 0, Value.int IntKind.u8 0, Value.int IntKind.u8 0, Value.int IntKind.u8 0, Value.int IntKind.u8 0, Value.int IntKind.u8 0, Value.int IntKind.u8 0, Value.int IntKind.u8 0, Value.int IntKind.u8 0, Value.int IntKind.u8 0, Value.int IntKind.u8 0, Value.int IntKind.u8 0, Value.int IntKind.u8 0, Value.int IntKind.u8 0, Value.int IntKind.u8 0, Value.int IntKind.u8 0, Value.int IntKind.u8 0, Value.int IntKind.u8 0, Value.int IntKind.u8 0, Value.int IntKind.u8 0, Value.int IntKind.u8 0, Value.int IntKind.u8 0, Value.int IntKind.u8 0, Value.int IntKind.u8 0, Value.int IntKind.u8 0, Value.int IntKind.u8 0, Value.int IntKind.u8 0, Value.int IntKind.u8 0] 24) = wp at *
      refine hid ?_
      refine wpList_store_row rfl 24 (.tmp 13) (.tmp 164) rfl wr.heap.size #[Value.int IntKind.u8 0, Value.int IntKind.u8 0, Value.int IntKind.u8 0, Value.int IntKind.u8 0, Value.int IntKind.u8 0, Value.int IntKind.u8 0, Value.int IntKind.u8 0, Value.int IntKind.u8 0, Value.int IntKind.u8 0, Value.int IntKind.u8 0, Value.int IntKind.u8 0, Value.int IntKind.u8 0, Value.int IntKind.u8 0, Value.int IntKind.u8 0, Value.int IntKind.u8 0, Value.int IntKind.u8 0, Value.int IntKind.u8 0, Value.int IntKind.u8 0, Value.int IntKind.u8 0, Value.int IntKind.u8 0, Value.int IntKind.u8 0, Value.int IntKind.u8 0, Value.int IntKind.u8 0, Value.int IntKind.u8 0, Value.int IntKind.u8 0, Value.int IntKind.u8 0, Value.int IntKind.u8 0, Value.int IntKind.u8 0, Value.int IntKind.u8 0, Value.int IntKind.u8 0, Value.int IntKind.u8 0, Value.int IntKind.u8 0] rfl rfl 24 _ HA0.out (by kernel_rfl) rfl (by kernel_rfl) ?_
      rw [setRow_self wp wr.heap.size #[Value.int IntKind.u8 0, Value.int IntKind.u8 0, Value.int IntKind.u8 0, Value.int IntKind.u8 0, Value.int IntKind.u8 0, Value.int IntKind.u8 0, Value.int IntKind.u8 0, Value.int IntKind.u8 0, Value.int IntKind.u8 0, Value.int IntKind.u8 0, Value.int IntKind.u8 0, Value.int IntKind.u8 0, Value.int IntKind.u8 0, Value.int IntKind.u8 0, Value.int IntKind.u8 0, Value.int IntKind.u8 0, Value.int IntKind.u8 0, Value.int IntKind.u8 0, Value.int IntKind.u8 0, Value.int IntKind.u8 0, Value.int IntKind.u8 0, Value.int IntKind.u8 0, Value.int IntKind.u8 0, Value.int IntKind.u8 0, Value.int IntKind.u8 0, Value.int IntKind.u8 0, Value.int IntKind.u8 0, Value.int IntKind.u8 0, Value.int IntKind.u8 0, Value.int IntKind.u8 0, Value.int IntKind.u8 0, Value.int IntKind.u8 0] 24 (0, 0) HA0.out]
      have HLp := hid ((HB2.out.block _ hlwr).trans HLr.out)
      have HWp := hid (below_then HWr.out HB2.out)
      have hlo : w.heap.size < wr.heap.size := by omega
      have HOp := hid ((HB2.out.block _ hlo).trans HOr.out)
      have hwpr : wr.heap.size < wp.heap.size := lt_of_block HA0.out
      have HA1 : Hid (wp.heap[wr.heap.size]? = some (.cells (((V.bytes.take 0 ++ List.replicate (32 - 0) 0).map (Value.int .u8)).toArray) 24 (0, 0))) := hid HA0.out
      clear HLr HWr HOr HB2 HA0
      obtain ⟨wo, rfl⟩ : ∃ wo : World, wo = wr := ⟨_, rfl⟩
      go_wp2
      go_loopw [14] (fun s14 w' => ∃ i : Nat, i ≤ 32 ∧ s14 = .int .i64 i ∧ w'.heap[wo.heap.size]? = some (.cells (((V.bytes.take i ++ List.replicate (32 - i) 0).map (Value.int .u8)).toArray) 24 (0, 0)) ∧ wp.grownBy w' (some wo.heap.size)) (fun s14 _ => 32 - (intOf s14).toNat)
      case atStart => exact ⟨0, by omega, rfl, HA1.out, World.grownBy.refl _ _⟩
      case round =>
        obtain ⟨i, hi, rfl, hrow, hgr⟩ := hrel
        have HRow := hid hrow; have HGr := hid hgr
        clear hrow hgr HA1
        by_cases hi32 : i < 32
        · have hi0 : (0 : Int) ≤ (i : Int) := by omega
          have hi1 : (i : Int) < 32 := by omega
          have hq8 : i / 4 < 8 := by omega
          have HLx := hid ((HGr.out.block _ (lt_of_block HLp.out) (fun h => by injection h with h; omega)).trans HLp.out)
          have c0 : wr.cell? ⟨wc.heap.size, i / 4, none⟩ = some (.int .u32 (uw (V.list.getD (i / 4) 0))) := cellOf HLx.out (V8.cells_get V (i / 4) hq8)
          have d0 : wr.cell? ⟨wo.heap.size, i, none⟩ = some (.int .u8 0) := cellOf HRow.out (out_at V i hi32)
          have f0 : wr.frozen? ⟨wo.heap.size, i, none⟩ = false := frozen_of_row _ _ _ _ _ HRow.out
          have hval : uw (V.list.getD (i / 4) 0) / 2 ^ (8 * (3 - i % 4)) % 256 = V.bytes.getD i 0 := bytes_at V i hi32
          have HS : Box ((((V.bytes.take i ++ List.replicate (32 - i) 0).map (Value.int .u8)).toArray).setIfInBounds i (.int .u8 (V.bytes.getD i 0)) = ((V.bytes.take (i + 1) ++ List.replicate (32 - (i + 1)) 0).map (Value.int .u8)).toArray) := ⟨out_set V i hi32⟩
          generalize V.bytes.getD i 0 = BY at *
          generalize V.list.getD (i / 4) 0 = X at *
          have t1 : (i : Int) / 4 = ((i / 4 : Nat) : Int) := by omega
          have t2 : (i : Int) % 4 = ((i % 4 : Nat) : Int) := by omega
          have t3 : (i : Int).tdiv 4 = ((i / 4 : Nat) : Int) := by rw [Int.tdiv_eq_ediv_of_nonneg hi0]; omega
          have t4 : (i : Int).tmod 4 = ((i % 4 : Nat) : Int) := by rw [Int.tmod_eq_emod_of_nonneg hi0]; omega
          have hm4 : i % 4 < 4 := Nat.mod_lt _ (by decide)
          obtain ⟨Q, hQ⟩ : ∃ Q, Q = i / 4 := ⟨_, rfl⟩
          obtain ⟨M, hM⟩ : ∃ M, M = i % 4 := ⟨_, rfl⟩
          rw [← hQ] at t1 t3 c0 hq8
          rw [← hM] at t2 t4 hm4 hval
          clear hQ hM
          have u0 : (0 : Int) ≤ 3 - (M : Int) := by omega
          have u1 : (0 : Int) ≤ 8 * (3 - (M : Int)) := by omega
          have u2 : (8 * (3 - (M : Int))).toNat = 8 * (3 - M) := by omega
          have u3 : (Q : Int) < 8 := by omega
          have u4 : (0 : Int) ≤ (Q : Int) := by omega
          go_wp2
          go_roundw
          case rel =>
            have h2 := hs (i := i) (v := .int .u8 BY) HRow.out
            rw [HS.out] at h2
            exact ⟨i + 1, by omega, by go_num, h2, grown_trans HGr.out (grown_set _ _ _ _)⟩
          case measure => simp [intOf]; omega
        · obtain rfl : i = 32 := by omega
          clear hi32 hi
          have HRow2 : Hid (wr.heap[wo.heap.size]? = some (.cells (((sha xs).map (Value.int .u8)).toArray) 24 (0, 0))) := hid (by rw [HVB.out]; exact HRow.out)
          have HOw := hid ((HGr.out.block _ (lt_of_block HOp.out) (fun h => by injection h with h; omega)).trans HOp.out)
          have HWw : Hid (Below w.heap.size w wr) := hid (HWp.out.grown HGr.out HWp.out.size (fun k hk => by injection hk with hk; omega))
          obtain ⟨R, hR⟩ : ∃ R, R = ((sha xs).map (Value.int .u8)).toArray := ⟨_, rfl⟩
          rw [← hR] at HRow2
          have HRR : Box (R = ((sha xs).map (Value.int .u8)).toArray) := ⟨hR⟩
          have HHS : Hid (R.size = 32) := hid (by rw [hR]; exact sha_size _)
          have HHO : Hid (R.all (·.oneCell') = true) := hid (by rw [hR]; exact sha_one _)
          clear hR HRow HGr HOp HWp HLp
          go_wp2_with (with_reducible refine hold_op (o := ⟨some 182, _, _, _, _, _⟩) ?_)
          refine hid ?_
          refine wpList_load_row rfl 24 (.tmp 13) rfl wo.heap.size rfl 24 R (0, 0) _ HRow2.out Tryd.underlying24 rfl (by rw [HHS.out]; kernel_rfl) ?_
          refine wpList_store_row rfl 24 (.tmp 2) (.tmp 182) rfl w.heap.size R rfl rfl 24 _ HOw.out (by rw [HHS.out]; kernel_rfl) HHS.out.symm HHO.out ?_
          have HO5 := hid (setRow_heap wr w.heap.size _ R 24 _ HOw.out)
          have HB5 := hid (below_setRow HWw.out (Nat.le_refl _) R)
          clear HOw HWw
          generalize wr.setRow w.heap.size R = wz at *
          go_wp2
          refine bodyPost_ret (v := .agg R) ?_ rfl ⟨by rw [HRR.out], HB5.out⟩
          exact results_cell_row (p := 2) rfl _ wz w.heap.size 24 R (0, 0) _ rfl HO5.out Tryd.underlying24 rfl (by rw [HHS.out]; kernel_rfl)
end Go.Proofs.YtaieajfgcnaedaaDoor
