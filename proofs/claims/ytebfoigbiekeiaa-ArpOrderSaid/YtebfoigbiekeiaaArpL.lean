/-
  LAYER 9, WALKS: the law ArpAsks.
-/
import Derived.Test.YtebfoigbiekeiaaArpK
set_option linter.unusedVariables false
set_option linter.unusedSimpArgs false
namespace Go.Proofs.Ytebfoigbiekeiaa
open Go Go.RowKit

/-- What a law keeps of its cache in memory. -/
def Has (W w : World) (g b : Nat) (s : Ar) : Prop := ∃ (S : Nat → Prop) (M : List (Int × Value)), CSt S w g b M s ∧ Kpt W w g b
theorem Has.below {W w w' : World} {g b : Nat} {s : Ar} (h : Has W w g b s) (k : Below w.heap.size w w') : Has W w' g b s := by
  obtain ⟨S, M, h1, h2⟩ := h
  exact ⟨S, M, h1.below k, h2.below k⟩
theorem Has.lost {W w : World} {g b : Nat} {s : Ar} (h : Has W w g b s) : Calls Try.prog 20 #[.pointer (some ⟨g, 0, none⟩)] w fun e w' => e = .returned (.int .i64 s.lost) ∧ w = w' := by
  obtain ⟨S, M, h1, h2⟩ := h
  exact lost_calls S g b M s w h1
theorem Has.table {W w : World} {g b : Nat} {s : Ar} (h : Has W w g b s) : Calls Try.prog 17 #[.pointer (some ⟨g, 0, none⟩)] w fun e w' => ∃ v, e = .returned v ∧ OwnR w' w.heap.size 51 4 v s.m.length (tabC s.m) ∧ Has W w' g b s ∧ Below w.heap.size w w' := by
  obtain ⟨S, M, h1, h2⟩ := h
  refine (table_calls S g b M s w h1).mono ?_
  rintro e w' ⟨v, rfl, h3, h4⟩
  exact ⟨v, rfl, h3, ⟨S, M, h1.below h4, h2.below h4⟩, h4⟩
theorem Has.ok {W w : World} {g b : Nat} {s : Ar} (h : Has W w g b s) : s.Ok := by
  obtain ⟨S, M, h1, h2⟩ := h
  exact h1.ok
/-- What a call tells: frames, in blocks of their own. -/
def Told (W : World) (g b : Nat) (f : Ar × List (List Int) × Int) (w : World) (e : Ending) (w' : World) : Prop :=
  ∃ (v : Value), e = .returned (.tuple #[v, .int .i64 f.2.2]) ∧ Has W w' g b f.1 ∧ FrS (fun q => w.heap.size ≤ q) w' v f.2.1
theorem Told.of {S : Nat → Prop} {W w : World} {g b : Nat} {f : Ar × List (List Int) × Int} (hk : Kpt W w g b) {e : Ending} {w' : World} (h : Done S g b f w e w') : Told W g b f w e w' := by
  obtain ⟨v, S', M', rfl, h1, h2, h3, h4⟩ := h
  exact ⟨v, rfl, ⟨S', M', h1, hk.grown h4⟩, h3.sub fun q hq => hq.1⟩
theorem Has.tick {W w : World} {g b : Nat} {s : Ar} (h : Has W w g b s) (now : Int) (hlo : 0 ≤ s.lost ∧ s.lost ≤ 4611686018427387904) : Calls Try.prog 16 #[.pointer (some ⟨g, 0, none⟩), .int .i64 now] w (Told W g b (s.tick now) w) := by
  obtain ⟨S, M, h1, h2⟩ := h
  exact (tick_calls S g b M s now w h1 hlo).mono fun e w' h => Told.of h2 h
theorem Has.send {W w : World} {g b : Nat} {s : Ar} (h : Has W w g b s) (to now : Int) (hto : 0 ≤ to ∧ to < 4294967296) (A : Option Addr) (n c : Nat) (xs : List Int) (hn : xs.length = n) (hB : Bytes xs) (hR : Rd w .u8 A xs) (hA : A = none → c = 0) (hne : xs.length ≠ 0 → ∀ q o, A = some ⟨q, o, none⟩ → q ≠ g ∧ q ≠ b) (hlo : 0 ≤ s.lost ∧ s.lost ≤ 4611686018427387904) :
    Calls Try.prog 14 #[.pointer (some ⟨g, 0, none⟩), .int .u32 to, .slice A n c, .int .i64 now] w (Told W g b (s.send to xs now) w) := by
  obtain ⟨S, M, h1, h2⟩ := h
  exact (send_calls S g b M s to now hto A n c xs hn hB w h1 hR hA hne hlo).mono fun e w' h => Told.of h2 h
theorem Has.take {W w : World} {g b : Nat} {s : Ar} (h : Has W w g b s) (op fm fi tm ti now : Int) (hfm : 0 ≤ fm) (hfi : 0 ≤ fi ∧ fi < 4294967296) :
    Calls Try.prog 13 #[.pointer (some ⟨g, 0, none⟩), .agg #[.int .i64 op, .int .u64 fm, .int .u32 fi, .int .u64 tm, .int .u32 ti], .int .i64 now] w (Told W g b (s.take ⟨op, fm, fi, tm, ti⟩ now) w) := by
  obtain ⟨S, M, h1, h2⟩ := h
  exact (take_calls S g b M s op fm fi tm ti now hfm hfi w h1).mono fun e w' h => Told.of h2 h
set_option maxHeartbeats 12800000 in
set_option maxRecDepth 100000 in
theorem ArpAsks_calls (W : World) (to num : Int) (hto : 0 ≤ to ∧ to < 4294967296) (hnum : 0 ≤ num ∧ num < 256) (A : Option Addr) (l c : Nat) (xs : List Int) (hl : xs.length = l) (hB : Bytes xs) (hR : Rd W .u8 A xs) :
    Calls Try.prog 7 #[.int .u32 to, .int .u8 num, .slice A l c] W fun e w' => e = .returned (.bool true) ∧ Below W.heap.size W w' := by
  have HTO := hid hto; have HL := hid hl; have HB := hid hB; have HR := hid hR; have HNU := hid hnum
  clear hl hB hR hnum
  go_enter Try.func7, Try.ntmps7
  go_wp2_with (go_at_call 10; refine hold ?_)
  refine hid ?_
  obtain ⟨ip, hip⟩ : ∃ x, x = (to + 1) % 4294967296 := ⟨_, rfl⟩
  rw [← hip]
  have HIP : Hid (0 ≤ ip ∧ ip < 4294967296) := hid (by omega)
  clear hip
  refine Calls.mono (cnew_calls 5 ip (by decide) (by decide) HIP.out W) ?_
  rintro e w1 ⟨g, b, rfl, hg, hb, hc, hbl⟩
  have HG := hid hg; have HBG := hid hb
  have HH := hid (show Has W w1 g b (AS0 to ip 0) from ⟨_, _, hc, ⟨hbl, hg, hb⟩⟩)
  clear hc hbl hg hb
  have hnu := HNU.out
  go_wp2_with fail
  obtain ⟨k, hk⟩ : ∃ k : Nat, 1 + num % 4 = (k : Int) := ⟨(1 + num % 4).toNat, by omega⟩
  rw [hk]
  have hk1 : 1 ≤ k := by omega
  have hk4 : k ≤ 4 := by omega
  clear hk hnu
  go_loopw [10] (fun i w' => ∃ j : Nat, j ≤ k ∧ i = .int .i64 j ∧ Has W w' g b (AS0 to ip j)) (fun i _ => k - (intOf i).toNat)
  case atStart => exact ⟨0, Nat.zero_le _, rfl, HH.out⟩
  case round =>
    obtain ⟨j, hj, rfl, hh⟩ := hrel
    have HJ := hid hh
    clear hh HH
    have hj0 : (0 : Int) ≤ (j : Int) := by omega
    by_cases hlt : j < k
    · have hj1 : (j : Int) < (k : Int) := by omega
      go_wp2_with (go_at_call 14; refine hold ?_)
      have hb2 : Below wr.heap.size wr (wr.alloc (.cells #[.int .u8 1] 5)) := (Below.refl _ _).alloc (Nat.le_refl _) _
      have hr2 : Rd (wr.alloc (.cells #[.int .u8 1] 5)) .u8 (some ⟨wr.heap.size, 0, none⟩) [1] := Rd.lit rfl (by decide)
      have HH2 := hid (HJ.out.below hb2)
      have hsz : g < wr.heap.size ∧ b < wr.heap.size := by
        obtain ⟨S, M, h1, _⟩ := HJ.out
        exact ⟨h1.lt, h1.map.lt⟩
      have hlo : 0 ≤ (AS0 to ip j).lost ∧ (AS0 to ip j).lost ≤ 4611686018427387904 := by
        unfold AS0
        split
        · show (0 : Int) ≤ 0 ∧ (0 : Int) ≤ 4611686018427387904; omega
        · show (0 : Int) ≤ 0 ∧ (0 : Int) ≤ 4611686018427387904; omega
      refine hid ?_
      refine Calls.mono (HH2.out.send to 0 HTO.out (some ⟨wr.heap.size, 0, none⟩) 1 1 [1] rfl (fun x hx => by simp at hx; subst hx; exact ⟨by decide, by decide⟩) hr2 (by simp) (fun _ q o e => by injection e with e; injection e with e1 e2; omega) hlo) ?_
      rintro e w3 ⟨v, rfl, h3, _⟩
      rw [as0_send to ip j (by omega)] at h3
      have H3 := hid h3
      clear hb2 hr2 HH2 hlo h3 HJ hsz
      go_wp2
      go_roundw
      case rel => exact ⟨j + 1, by omega, by go_num, H3.out⟩
      case measure => simp [intOf]; omega
    · obtain rfl : j = k := by omega
      have hj1 : ¬ (j : Int) < (j : Int) := by omega
      have hk0 : ¬ j = 0 := by omega
      have HA := hid (show Has W wr g b (AS to ip j (some (0, 1)) 0) by have h := HJ.out; rw [AS0, if_neg hk0] at h; exact h)
      clear HJ hk0
      go_wp2_with fail
      go_loopw [11, 12, 13] (fun now asked i w' => ∃ (m : Nat) (st : Option (Int × Int)) (nw ak : Int), m ≤ 100 ∧ m ≤ l ∧ i = .int .i64 m ∧ now = .int .i64 nw ∧ asked = .int .i64 ak ∧ 0 ≤ nw ∧ nw ≤ 24 * m ∧ AOk st nw ak ∧ Has W w' g b (AS to ip j st nw)) (fun _ _ i _ => 100 - (intOf i).toNat)
      case atStart => exact ⟨0, some (0, 1), 0, 1, by omega, by omega, rfl, rfl, rfl, by omega, by omega, ⟨by decide, by decide, by decide, by decide, rfl, by decide, fun _ => rfl⟩, HA.out⟩
      case round =>
        obtain ⟨m, st, nw, ak, hm1, hml, rfl, rfl, rfl, hn0, hn1, hok, hh⟩ := hrel
        have HJ := hid hh; have HOK := hid hok
        clear hh hok HA
        have hm0 : (0 : Int) ≤ (m : Int) := by omega
        by_cases hlt : m < l ∧ m < 100
        · have hx1 : (m : Int) < (l : Int) := by omega
          have hx2 : (m : Int) < 100 := by omega
          have hx := HB.out.at_ m
          have hrd : Rd wr .u8 A xs := by
            obtain ⟨S, M, _, h2⟩ := HJ.out
            exact HR.out.below h2.bel
          obtain ⟨q, o, rfl, hql⟩ := hrd.form m (by have := HL.out; omega)
          have hcell := hrd.cell m (by have := HL.out; omega)
          generalize xs.getD m 0 = x at *
          have hx25 : 0 ≤ x % 25 ∧ x % 25 ≤ 24 := by omega
          clear hrd hql
          go_wp2_with (go_at_call 16; refine hold ?_)
          obtain ⟨n2, hn2⟩ : ∃ n2, n2 = nw + x % 25 := ⟨_, rfl⟩
          rw [← hn2]
          have hn3 : nw ≤ n2 ∧ n2 ≤ 24 * ((m : Int) + 1) := by omega
          obtain ⟨st2, fs, htick, hfl, hok2⟩ := asks_tick (to := to) (ip := ip) (k := j) HOK.out hn0 hn3.1 (by omega)
          have hlo : 0 ≤ (AS to ip j st nw).lost ∧ (AS to ip j st nw).lost ≤ 4611686018427387904 := by
            rw [(as_facts to ip j st nw).2.1]
            split <;> omega
          have HT := hid (HJ.out.tick n2 hlo)
          rw [htick] at HT
          clear htick hlo hx25 hn2 hcell HJ HOK hx
          refine hid ?_
          refine Calls.mono HT.out ?_
          rintro e w3 ⟨v, rfl, h3, hf⟩
          obtain ⟨A3, c3, rfl⟩ := hf.form
          simp only at h3 ⊢
          have H3 := hid h3
          obtain ⟨nf, hnf⟩ : ∃ nf, nf = fs.length := ⟨_, rfl⟩
          rw [← hnf] at hok2 hfl ⊢
          have hnf1 : ¬ 1 < (nf : Int) := by omega
          have hak : 0 ≤ ak + nf ∧ ak + nf ≤ 3 := by
            cases st2 with
            | none => have h : ak + nf = 3 := hok2; omega
            | some p => obtain ⟨_, _, h1, h2, h3, _⟩ := hok2; omega
          have HOK2 := hid hok2
          clear hf hnf HT h3 hok2
          go_wp2_with (go_at_call 17; refine hold ?_)
          refine hid ?_
          refine Calls.mono H3.out.table ?_
          rintro e w4 ⟨v4, rfl, ho4, h4, _⟩
          obtain ⟨A4, c4, rfl, _⟩ := ho4.form
          have H4 := hid h4
          clear ho4 h4 H3
          cases st2 with
          | none =>
            have hak3 : ak + nf = 3 := HOK2.out
            rw [hak3]
            rw [(as_facts to ip j none n2).1]
            simp only [Option.isSome_none, Bool.false_eq_true, if_false]
            go_wp2_with (go_at_call 20; refine hold ?_)
            refine hid ?_
            refine Calls.mono H4.out.lost ?_
            rintro e w5 ⟨rfl, rfl⟩
            rw [(as_facts to ip j none n2).2.1]
            simp only [Option.isSome_none, Bool.false_eq_true, if_false]
            have hjj : ((j : Int) == (j : Int)) = true := by simp
            go_wp2
            go_roundw
            case rel => exact ⟨m + 1, none, n2, 3, by omega, by omega, by go_num, rfl, rfl, by omega, by omega, rfl, H4.out⟩
            case measure => simp [intOf]; omega
          | some p =>
            rw [(as_facts to ip j (some p) n2).1]
            simp only [Option.isSome_some, if_true]
            go_wp2_with (go_at_call 20; refine hold ?_)
            refine hid ?_
            refine Calls.mono H4.out.lost ?_
            rintro e w5 ⟨rfl, rfl⟩
            rw [(as_facts to ip j (some p) n2).2.1]
            simp only [Option.isSome_some, if_true]
            have hjj : ((0 : Int) == (j : Int)) = false := by simp; omega
            have hak3 : ¬ 3 < ak + nf := by omega
            go_wp2
            go_roundw
            case rel => exact ⟨m + 1, some p, n2, ak + nf, by omega, by omega, by go_num, rfl, rfl, by omega, by omega, HOK2.out, H4.out⟩
            case measure => simp [intOf]; omega
        · have hak1 : ¬ nw < 30 → 1 < ak := fun h30 => by
            cases st with
            | none => have h : ak = 3 := HOK.out; omega
            | some p => obtain ⟨a1, a2, a3, a4, a5, a6, a7⟩ := HOK.out; omega
          have HAK := hid hak1
          by_cases hml2 : m < l
          · have hx1 : (m : Int) < (l : Int) := by omega
            have hx2 : ¬ (m : Int) < 100 := by omega
            clear hak1 HOK
            go_wp2_with (go_at_call 15; refine hold ?_)
            refine hid ?_
            refine Calls.mono (live_calls wr) ?_
            rintro e w5 ⟨rfl, hb5⟩
            have H5 := hid (HJ.out.below hb5)
            clear hb5 HJ
            by_cases h30 : nw < 30
            · go_wp2
              go_ret
              obtain ⟨S, M, _, h2⟩ := H5.out
              exact ⟨rfl, h2.bel⟩
            · have h1 := HAK.out (by omega)
              go_wp2
              go_ret
              obtain ⟨S, M, _, h2⟩ := H5.out
              exact ⟨rfl, h2.bel⟩
          · have hx1 : ¬ (m : Int) < (l : Int) := by omega
            clear hak1 HOK
            go_wp2_with (go_at_call 15; refine hold ?_)
            refine hid ?_
            refine Calls.mono (live_calls wr) ?_
            rintro e w5 ⟨rfl, hb5⟩
            have H5 := hid (HJ.out.below hb5)
            clear hb5 HJ
            by_cases h30 : nw < 30
            · go_wp2
              go_ret
              obtain ⟨S, M, _, h2⟩ := H5.out
              exact ⟨rfl, h2.bel⟩
            · have h1 := HAK.out (by omega)
              go_wp2
              go_ret
              obtain ⟨S, M, _, h2⟩ := H5.out
              exact ⟨rfl, h2.bel⟩
end Go.Proofs.Ytebfoigbiekeiaa
