/-
  LAYER 6, WALKS: the law's pair of keys: open.
-/
import Derived.Test.YtaieajfgcnaedaaDoorRefF
import Derived.Test.YtaieajfgcnaedaaDoorRefE
import Derived.Test.YtaieajfgcnaedaaDoorCookF
import Derived.Deep.MidRow
set_option linter.unusedVariables false
set_option linter.unusedSimpArgs false
namespace Go.Proofs.YtaieajfgcnaedaaDoor
open Go.RowKit

/-- The secrets that the reference keeps, and the keys' two. -/
def Lk (L : List (List Int)) (sec frm : List Int) (two : Bool) : Prop :=
  (two = false ∧ L = [sec] ∧ frm = []) ∨ (two = true ∧ ∃ L', L = L' ++ [frm, sec])
theorem rkGood_far (L : List (List Int)) (p s : List Int) : ∀ i, i + 2 ≤ L.length → rkGood L p s i = false
  | 0, _ => rfl
  | i + 1, h => by
    unfold rkGood
    rw [rkGood_far L p s i (by omega), decide_eq_false (show ¬ L.length ≤ i + 2 by omega)]
    rfl
theorem Lk.good {L : List (List Int)} {sec frm : List Int} {two : Bool} (h : Lk L sec frm two) (p s : List Int) : (rkGood L p s L.length = false) ↔ ¬ (mac sec p = s ∨ (mac frm p = s ∧ two = true)) := by
  rcases h with ⟨rfl, rfl, rfl⟩ | ⟨rfl, L', rfl⟩
  · show rkGood [sec] p s 1 = false ↔ _
    simp [rkGood]
  · have hl : (L' ++ [frm, sec]).length = L'.length + 1 + 1 := by simp
    have h0 := rkGood_far (L' ++ [frm, sec]) p s L'.length (by rw [hl]; omega)
    have g1 : (L' ++ [frm, sec]).getD L'.length [] = frm := by simp [List.getD_eq_getElem?_getD]
    have g2 : (L' ++ [frm, sec]).getD (L'.length + 1) [] = sec := by simp [List.getD_eq_getElem?_getD]
    rw [hl]
    show (rkGood (L' ++ [frm, sec]) p s (L'.length + 1) || _) = false ↔ _
    show ((rkGood (L' ++ [frm, sec]) p s L'.length || _) || _) = false ↔ _
    rw [h0, g1, g2, hl, decide_eq_true (show L'.length + 1 + 1 ≤ L'.length + 2 by omega), decide_eq_true (show L'.length + 1 + 1 ≤ L'.length + 1 + 2 by omega)]
    simp
    constructor
    · rintro ⟨a, b⟩; exact ⟨b, a⟩
    · rintro ⟨a, b⟩; exact ⟨b, a⟩
theorem Lk.same {L : List (List Int)} {sec frm : List Int} {two : Bool} (h : Lk L sec frm two) (b : List Int) (now : Int) : rkOpen L b now = ckOpen sec frm two b now := by
  unfold rkOpen ckOpen
  by_cases hg : rkGood L (b.take 52) (b.drop 52) L.length = false
  · rw [if_pos hg, if_pos ((h.good _ _).1 hg)]
  · rw [if_neg hg, if_neg (fun k => hg ((h.good _ _).2 k))]
theorem Lk.turn {L : List (List Int)} {sec frm : List Int} {two : Bool} (h : Lk L sec frm two) (x : List Int) : Lk (L ++ [x]) x sec true := by
  rcases h with ⟨rfl, rfl, rfl⟩ | ⟨rfl, L', rfl⟩
  · exact .inr ⟨rfl, [], rfl⟩
  · exact .inr ⟨rfl, L' ++ [frm], by simp⟩
theorem Lk.last {L : List (List Int)} {sec frm : List Int} {two : Bool} (h : Lk L sec frm two) : ∃ M, L = M ++ [sec] := by
  rcases h with ⟨rfl, rfl, rfl⟩ | ⟨rfl, L', rfl⟩
  · exact ⟨[], rfl⟩
  · exact ⟨L' ++ [frm], by simp⟩
/-- Block p is a pair of keys. -/
structure PSt (w : World) (p gx gy : Nat) (sec frm : List Int) (two : Bool) (L : List (List Int)) (last : List Int) : Prop where
  blk : ∃ A c, w.heap[p]? = some (.cells #[.pointer (some ⟨gx, 0, none⟩), .pointer (some ⟨gy, 0, none⟩), .slice A last.length c] 59 (0, 0)) ∧ Rd w .u8 A last ∧ (A = none → c = 0)
  kx : KSt w gx sec frm two
  ky : RSt w gy L
  lk : Lk L sec frm two
  bl : Bytes last
  ll : last.length ≤ 84
theorem PSt.below {w w' : World} {p gx gy : Nat} {sec frm : List Int} {two : Bool} {L : List (List Int)} {last : List Int} (h : PSt w p gx gy sec frm two L last) (hb : Below w.heap.size w w') : PSt w' p gx gy sec frm two L last := by
  obtain ⟨A, c, h1, h2, h3⟩ := h.blk
  exact ⟨⟨A, c, (hb.block _ (lt_of_block h1)).trans h1, h2.below hb, h3⟩, h.kx.below hb, h.ky.below hb, h.lk, h.bl, h.ll⟩
theorem PSt.lt {w : World} {p gx gy : Nat} {sec frm : List Int} {two : Bool} {L : List (List Int)} {last : List Int} (h : PSt w p gx gy sec frm two L last) : p < w.heap.size := by
  obtain ⟨A, c, h1, _⟩ := h.blk
  exact lt_of_block h1
theorem wp_eqR {P : Program} {w : World} {o : Oper} {a : Act} {K : Act → World → Prop} {Q : Exit → Act → World → Prop} (t : TypeId) (x y : Operand) (ho : o.op = .binOp .eql t x y t)
    (vx vy : Array Value) (hx : a.eval x = .agg vx) (hy : a.eval y = .agg vy) (hm : P.eqGuardType P.depth t = false) (b : Bool) (hr : (binOp .eql t (.agg vx) (.agg vy)).run P w = .ok (.bool b) w) (h : K (a.put o.dst (.bool b)) w) : o.wp P a w K Q := by
  unfold Oper.wp
  have hg : (eqGuard .eql t x y (.agg vx) (.agg vy)).run P w = .ok () w := run_eqGuard_agg w .eql t x y vx vy hm
  simp [execOp, ho, hx, hy, hr, hg, Result.andThen]
  exact h
set_option maxHeartbeats 12800000 in
set_option maxRecDepth 100000 in
theorem popen_calls (p gx gy nb cb : Nat) (A : Option Addr) (bs sec frm : List Int) (two : Bool) (L : List (List Int)) (last : List Int) (now : Int) (w : World) (hT : Tab w) (hP : PSt w p gx gy sec frm two L last) (hL : L.length ≤ 1000)
    (hnb : bs.length = nb) (hR : Rd w .u8 A bs) (hA : A = none → cb = 0) (hb : Bytes bs) (hcb : nb ≤ cb) (hcm : cb ≤ 9223372036854775807) (hnm : nb ≤ 140737488351232) :
    Calls Tryd.prog 49 #[.pointer (some ⟨p, 0, none⟩), .slice A nb cb, .int .i64 now] w fun e w' => e = .returned (.bool true) ∧ Below w.heap.size w w' := by
  have HT := hid hT; have HP := hid hP; have HL := hid hL; have HNB := hid hnb; have HR := hid hR; have HA := hid hA; have HB := hid hb
  clear hT hP hL hnb hR hA hb
  obtain ⟨A0, c0, k0, _, _⟩ := HP.out.blk
  have HK0 := hid k0
  clear k0
  go_enter Tryd.func49, Tryd.ntmps49
  go_wp2_with (at_builtin; refine hold ?_)
  refine hid ?_
  refine wpList_app2 rfl (.tmp 12) (.tmp 13) 22 5 .u8 1 rfl elemB w.heap.size (.slice (some ⟨w.heap.size, 0, none⟩) 0 0) [] rfl (Own.lit w 5 .u8 w.heap.size (Nat.le_refl _) [] #[] 0 rfl rfl (by decide)) A cb nb bs rfl HNB.out HA.out (HR.out.below ((Below.refl _ _).alloc (Nat.le_refl _) _)) (by simp; omega) (by simp [maxLen]; omega) (by simp) ?_
  intro v3 w3 ho3 hg3 hat3
  rw [List.nil_append] at ho3
  have hb3 : Below w.heap.size w w3 := ((Below.refl w.heap.size w).alloc (Nat.le_refl _) _).grown hg3 (by simp) (fun q hq => Nat.le_of_eq (Option.some.inj hq))
  obtain ⟨A3, c3, rfl, hA3, hR3, _⟩ := ho3.rd (by rw [HNB.out]; omega)
  have hcaps := ho3.caps
  rw [HNB.out] at hcaps ⊢
  have HR3 := hid hR3; have HB3 := hid hb3; have HCP := hid hcaps
  have x0 : w3.cell? ⟨p, 0, none⟩ = some (.pointer (some ⟨gx, 0, none⟩)) := (hb3.cell (p := ⟨p, 0, none⟩) (lt_of_block HK0.out)).trans (cellOf HK0.out rfl)
  clear ho3 hg3 hat3 hb3 hA3 hR3 hcaps
  obtain ⟨V, hV⟩ : ∃ V, V = ckOpen sec frm two bs now := ⟨_, rfl⟩
  have HO1 : Box (∀ w, Tab w → KSt w gx sec frm two → Rd w .u8 A3 bs → Calls Tryd.prog 26 #[.pointer (some ⟨gx, 0, none⟩), .slice A3 nb c3, .int .i64 now] w fun e w' => e = .returned (.tuple #[.agg V.1.cells, .int .i64 V.2]) ∧ Below w.heap.size w w') := ⟨fun w h1 h2 h3 => by
    rw [hV]
    exact open_calls gx nb c3 A3 bs sec frm two now w h1 h2 HNB.out h3 HB.out HCP.out.1 HCP.out.2⟩
  have HO2 : Box (∀ w, RSt w gy L → Rd w .u8 A bs → Calls Tryd.prog 54 #[.pointer (some ⟨gy, 0, none⟩), .slice A nb cb, .int .i64 now] w fun e w' => e = .returned (.tuple #[.agg V.1.cells, .int .i64 V.2]) ∧ Below w.heap.size w w') := ⟨fun w h1 h2 => by
    rw [hV, ← HP.out.lk.same]
    exact ropen_calls gy nb cb A bs L HL.out now w h1 HNB.out h2 HB.out hcb hcm⟩
  clear hV
  have HEQ : Box (∀ W, (binOp .eql 40 (.agg V.1.cells) (.agg V.1.cells)).run Tryd.prog W = .ok (.bool true) W) := ⟨fun W => eqck W V.1⟩
  have HS : Hid (V.1.cells.size = 13) := hid (Ck.size _)
  have H1 : Hid (V.1.cells.all (·.oneCell') = true) := hid (Ck.one _)
  generalize V.1.cells = R at *
  obtain ⟨_, E⟩ := V
  simp only at HO1 HO2
  go_wp2_with (go_at_call 26; refine hold ?_)
  refine hid ?_
  refine Calls.mono (HO1.out w3 (HT.out.below HB3.out) (HP.out.kx.below HB3.out) HR3.out) ?_
  rintro e w4 ⟨rfl, hb4⟩
  have HB4 := hid (below_then HB3.out hb4); have HR4 := hid (HR3.out.below hb4)
  clear hb4 x0 HB3 HR3 HO1
  go_wp2_with (with_reducible refine hold_op (o := ⟨none, _, _, _, _, _⟩) ?_)
  have hO1 : (w4.alloc (.cells #[Value.int IntKind.i64 0, Value.int IntKind.i64 0, Value.int IntKind.u16 0, Value.int IntKind.u16 0, Value.int IntKind.u32 0, Value.int IntKind.u32 0, Value.int IntKind.u32 0, Value.int IntKind.u32 0, Value.int IntKind.u32 0, Value.int IntKind.u16 0, Value.int IntKind.u16 0, Value.int IntKind.u32 0, Value.int IntKind.u32 0] 40)).heap[w4.heap.size]? = some (.cells #[Value.int IntKind.i64 0, Value.int IntKind.i64 0, Value.int IntKind.u16 0, Value.int IntKind.u16 0, Value.int IntKind.u32 0, Value.int IntKind.u32 0, Value.int IntKind.u32 0, Value.int IntKind.u32 0, Value.int IntKind.u32 0, Value.int IntKind.u16 0, Value.int IntKind.u16 0, Value.int IntKind.u32 0, Value.int IntKind.u32 0] 40 (0, 0)) := heap_alloc_new _ _
  have hA1 : Below w4.heap.size w4 (w4.alloc (.cells #[Value.int IntKind.i64 0, Value.int IntKind.i64 0, Value.int IntKind.u16 0, Value.int IntKind.u16 0, Value.int IntKind.u32 0, Value.int IntKind.u32 0, Value.int IntKind.u32 0, Value.int IntKind.u32 0, Value.int IntKind.u32 0, Value.int IntKind.u16 0, Value.int IntKind.u16 0, Value.int IntKind.u32 0, Value.int IntKind.u32 0] 40)) := (Below.refl _ _).alloc (Nat.le_refl _) _
  have HX1 := hid hO1; have HA1 := hid hA1
  clear hO1 hA1
  generalize w4.alloc (.cells #[Value.int IntKind.i64 0, Value.int IntKind.i64 0, Value.int IntKind.u16 0, Value.int IntKind.u16 0, Value.int IntKind.u32 0, Value.int IntKind.u32 0, Value.int IntKind.u32 0, Value.int IntKind.u32 0, Value.int IntKind.u32 0, Value.int IntKind.u16 0, Value.int IntKind.u16 0, Value.int IntKind.u32 0, Value.int IntKind.u32 0] 40) = w5 at *
  refine hid ?_
  refine wpList_store_row rfl 40 (.tmp 8) (.tmp 23) rfl w4.heap.size R rfl rfl 40 _ HX1.out (by rw [HS.out]; kernel_rfl) (by rw [HS.out]; rfl) H1.out ?_
  have HW1 := hid (setRow_heap w5 w4.heap.size _ R 40 _ HX1.out)
  have HV1 := hid (below_setRow HA1.out (Nat.le_refl _) R)
  clear HX1 HA1
  generalize w5.setRow w4.heap.size R = w6 at *
  have HB6 := hid (below_then HB4.out HV1.out); have HR6 := hid (HR4.out.below HV1.out)
  clear HV1 HR4
  have hsz6 : w4.heap.size < w6.heap.size := lt_of_block HW1.out
  have x1 : w6.cell? ⟨p, 1, none⟩ = some (.pointer (some ⟨gy, 0, none⟩)) := (HB6.out.cell (p := ⟨p, 1, none⟩) (lt_of_block HK0.out)).trans (cellOf HK0.out rfl)
  dsimp only [Act.put]
  go_wp2_with (go_at_call 54; refine hold ?_)
  refine hid ?_
  refine Calls.mono (HO2.out w6 (HP.out.ky.below HB6.out) (HR.out.below HB6.out)) ?_
  rintro e w7 ⟨rfl, hb7⟩
  have HB7 := hid (below_then HB6.out hb7); have HR7 := hid (HR6.out.below hb7)
  have HWk := hid ((hb7.block _ (lt_of_block HW1.out)).trans HW1.out)
  clear hb7 x1 HB6 HR6 HW1 HO2
  go_wp2_with (with_reducible refine hold_op (o := ⟨none, _, _, _, _, _⟩) ?_)
  have hO2 : (w7.alloc (.cells #[Value.int IntKind.i64 0, Value.int IntKind.i64 0, Value.int IntKind.u16 0, Value.int IntKind.u16 0, Value.int IntKind.u32 0, Value.int IntKind.u32 0, Value.int IntKind.u32 0, Value.int IntKind.u32 0, Value.int IntKind.u32 0, Value.int IntKind.u16 0, Value.int IntKind.u16 0, Value.int IntKind.u32 0, Value.int IntKind.u32 0] 40)).heap[w7.heap.size]? = some (.cells #[Value.int IntKind.i64 0, Value.int IntKind.i64 0, Value.int IntKind.u16 0, Value.int IntKind.u16 0, Value.int IntKind.u32 0, Value.int IntKind.u32 0, Value.int IntKind.u32 0, Value.int IntKind.u32 0, Value.int IntKind.u32 0, Value.int IntKind.u16 0, Value.int IntKind.u16 0, Value.int IntKind.u32 0, Value.int IntKind.u32 0] 40 (0, 0)) := heap_alloc_new _ _
  have hA2 : Below w7.heap.size w7 (w7.alloc (.cells #[Value.int IntKind.i64 0, Value.int IntKind.i64 0, Value.int IntKind.u16 0, Value.int IntKind.u16 0, Value.int IntKind.u32 0, Value.int IntKind.u32 0, Value.int IntKind.u32 0, Value.int IntKind.u32 0, Value.int IntKind.u32 0, Value.int IntKind.u16 0, Value.int IntKind.u16 0, Value.int IntKind.u32 0, Value.int IntKind.u32 0] 40)) := (Below.refl _ _).alloc (Nat.le_refl _) _
  have HX2 := hid hO2; have HA2 := hid hA2
  clear hO2 hA2
  generalize w7.alloc (.cells #[Value.int IntKind.i64 0, Value.int IntKind.i64 0, Value.int IntKind.u16 0, Value.int IntKind.u16 0, Value.int IntKind.u32 0, Value.int IntKind.u32 0, Value.int IntKind.u32 0, Value.int IntKind.u32 0, Value.int IntKind.u32 0, Value.int IntKind.u16 0, Value.int IntKind.u16 0, Value.int IntKind.u32 0, Value.int IntKind.u32 0] 40) = w8 at *
  refine hid ?_
  refine wpList_store_row rfl 40 (.tmp 10) (.tmp 33) rfl w7.heap.size R rfl rfl 40 _ HX2.out (by rw [HS.out]; kernel_rfl) (by rw [HS.out]; rfl) H1.out ?_
  have HW2 := hid (setRow_heap w8 w7.heap.size _ R 40 _ HX2.out)
  have HV2 := hid (below_setRow HA2.out (Nat.le_refl _) R)
  clear HX2 HA2
  generalize w8.setRow w7.heap.size R = w9 at *
  have HB9 := hid (below_then HB7.out HV2.out); have HR9 := hid (HR7.out.below HV2.out)
  have HW3 := hid ((HV2.out.block _ (lt_of_block HWk.out)).trans HWk.out)
  clear HV2 HR7 HWk HB4 HB7 hsz6
  dsimp only [Act.put]
  go_wp2_with (with_reducible refine hold_op (o := ⟨some 35, _, _, _, _, _⟩) ?_)
  refine hid ?_
  refine wpList_load_row rfl 40 (.tmp 8) rfl w4.heap.size rfl 40 R (0, 0) _ HW3.out Tryd.underlying40 rfl (by rw [HS.out]; kernel_rfl) ?_
  refine wpList_load_row rfl 40 (.tmp 10) rfl w7.heap.size rfl 40 R (0, 0) _ HW2.out Tryd.underlying40 rfl (by rw [HS.out]; kernel_rfl) ?_
  simp only [Act.put, List.setIfInBounds_toArray, List.set_cons_succ, List.set_cons_zero]
  refine BigFrame.wpList_want rfl fun K hK => wp_eqR 40 _ _ rfl _ _ rfl rfl Tryd.eqGuardType40 true (HEQ.out w9) (hK _ _ ?_)
  simp only [Act.put, List.setIfInBounds_toArray, List.set_cons_succ, List.set_cons_zero]
  have hcA : Sem.run Tryd.prog (convert 22 9 (.slice A3 nb c3)) w9 = .ok (.string (strOfNums bs)) w9 :=
    conv_str (P := Tryd.prog) (w := w9) (dst := 9) Tryd.underlying22 Tryd.underlying5 Tryd.underlying9 nb c3 HNB.out HR9.out
  have hcB : Sem.run Tryd.prog (convert 22 9 (.slice A nb cb)) w9 = .ok (.string (strOfNums bs)) w9 :=
    conv_str (P := Tryd.prog) (w := w9) (dst := 9) Tryd.underlying22 Tryd.underlying5 Tryd.underlying9 nb cb HNB.out (HR.out.below HB9.out)
  have hss : ((strOfNums bs).toList == (strOfNums bs).toList) = true := beq_self_eq_true _
  generalize strOfNums bs = S at *
  clear HW2 HW3 HR9 HEQ HS H1
  go_wp2
  go_ret
  exact ⟨rfl, HB9.out⟩
end Go.Proofs.YtaieajfgcnaedaaDoor
