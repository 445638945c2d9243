/-
  LAYER 9, WALKS: arp.New, begin, Lost.
-/
import Derived.Test.YtebfoigbiekeiaaArpB
import Derived.Test.YtebfoigbiekeiaaMapV
import Derived.Carry
set_option linter.unusedVariables false
set_option linter.unusedSimpArgs false
namespace Go.Proofs.Ytebfoigbiekeiaa
open Go Go.RowKit

theorem zeroEn (w : World) : (zeroValue 78).run Try.prog w = .ok (.agg #[.bool false, .int .u64 0, .int .i64 0, .int .i64 0, .slice none 0 0]) w := by kernel_rfl
theorem cnew_bad (mac ip : Int) (hm : 281474976710655 ≤ mac) (w : World) : Calls Try.prog 10 #[.int .u64 mac, .int .u32 ip] w fun e w' => e = .returned (.tuple #[.pointer none, .int .i64 2]) ∧ w = w' := by
  go_enter Try.func10, Try.ntmps10
  go_wp2
  go_ret2
  exact ⟨rfl, rfl⟩
def newA (mac ip : Int) : Ar := ⟨mac, ip, 0, 0, []⟩
theorem newA_ok (mac ip : Int) (h0 : 0 ≤ mac) (hm : mac < 281474976710655) (hi : 0 ≤ ip ∧ ip < 4294967296) : (newA mac ip).Ok :=
  ⟨⟨h0, hm⟩, hi, by simp [newA], List.Pairwise.nil, fun p hp => by simp [newA] at hp, by simp [newA], fun p hp => by simp [newA] at hp⟩
/-- What 'New' makes. -/
def Newed (mac ip : Int) (w : World) (e : Ending) (w' : World) : Prop :=
  ∃ g b, e = .returned (.tuple #[.pointer (some ⟨g, 0, none⟩), .int .i64 0]) ∧ w.heap.size ≤ g ∧ w.heap.size ≤ b ∧ CSt (fun _ => False) w' g b [] (newA mac ip) ∧ Below w.heap.size w w'
set_option maxHeartbeats 1600000 in
theorem cnew_calls (mac ip : Int) (h0 : 0 ≤ mac) (hm : mac < 281474976710655) (hi : 0 ≤ ip ∧ ip < 4294967296) (w : World) :
    Calls Try.prog 10 #[.int .u64 mac, .int .u32 ip] w (Newed mac ip w) := by
  have hm' : ¬ 281474976710655 ≤ mac := by omega
  have hmk := run_makeMap (P := Try.prog) 70 w
  go_enter Try.func10, Try.ntmps10
  go_wp2
  go_ret2
  have hB1 : Below w.heap.size w (w.alloc (.map #[] 0)) := (Below.refl _ _).alloc (Nat.le_refl _) _
  have hM := MapAt.new w Try.prog 28
  have hs1 : (w.alloc (.map #[] 0)).heap.size = w.heap.size + 1 := by simp
  generalize w.alloc (.map #[] 0) = w1 at *
  have hB2 : Below w1.heap.size w1 (w1.alloc (.cells #[.int .u64 mac, .int .u32 ip, .int .i64 0, .map (some w.heap.size), .int .i64 0] 72)) := (Below.refl _ _).alloc (Nat.le_refl _) _
  have hg := heap_alloc_new w1 (.cells #[.int .u64 mac, .int .u32 ip, .int .i64 0, .map (some w.heap.size), .int .i64 0] 72)
  rw [hs1] at hg
  exact ⟨w.heap.size + 1, w.heap.size, rfl, by omega, Nat.le_refl _, ⟨hg, hM.keep (hB2.block _ hM.lt), trivial, newA_ok mac ip h0 hm hi, fun q h => h.elim, fun h => h, fun h => h⟩, below_then hB1 hB2⟩
theorem Ar.Ok.at {s : Ar} (h : s.Ok) {now : Int} (h0 : 0 ≤ now ∧ now ≤ 1099511627776) (h1 : s.last ≤ now) : (s.at now).Ok :=
  ⟨h.mac, h.ip, h0, h.rise, h.key, h.few, fun p hp => by
    obtain ⟨a1, a2, a3, a4, a5⟩ := h.en p hp
    exact ⟨a1, a2, a3, by show p.2.at_ ≤ now; omega, a5⟩⟩
/-- What 'begin' leaves. -/
def Begun (S : Nat → Prop) (g b : Nat) (M : List (Int × Value)) (s : Ar) (now : Int) (w : World) (e : Ending) (w' : World) : Prop :=
  e = .returned (.int .i64 (s.wrong now)) ∧ (s.wrong now ≠ 0 → w' = w) ∧ (s.wrong now = 0 → CSt S w' g b M (s.at now) ∧ w.grownBy w' (some g))
set_option maxHeartbeats 1600000 in
theorem begin_calls (S : Nat → Prop) (g b : Nat) (M : List (Int × Value)) (s : Ar) (now : Int) (w : World) (h : CSt S w g b M s) :
    Calls Try.prog 28 #[.pointer (some ⟨g, 0, none⟩), .int .i64 now] w (Begun S g b M s now w) := by
  obtain ⟨c0, c1, c2, c3, c4⟩ := h.cells
  have f2 : w.frozen? ⟨g, 2, none⟩ = false := frozen_of_row w g 2 _ _ h.blk
  have H := hid h
  clear h c0 c1 c3 c4
  go_enter Try.func28, Try.ntmps28
  by_cases h0 : now < 0
  · have hw : s.wrong now = 2 := by unfold Ar.wrong; rw [if_pos (.inl h0)]
    have HW := hid hw; clear hw
    go_wp2
    go_ret
    exact ⟨by rw [HW.out]; rfl, fun _ => rfl, fun h => absurd h (by rw [HW.out]; decide)⟩
  by_cases h1 : 1099511627776 < now
  · have hw : s.wrong now = 2 := by unfold Ar.wrong; rw [if_pos (.inr h1)]
    have HW := hid hw; clear hw
    go_wp2
    go_ret
    exact ⟨by rw [HW.out]; rfl, fun _ => rfl, fun h => absurd h (by rw [HW.out]; decide)⟩
  by_cases h2 : now < s.last
  · have hw : s.wrong now = 18 := by unfold Ar.wrong; rw [if_neg (by omega), if_pos h2]
    have HW := hid hw; clear hw
    go_wp2
    go_ret
    exact ⟨by rw [HW.out]; rfl, fun _ => rfl, fun h => absurd h (by rw [HW.out]; decide)⟩
  · have hw : s.wrong now = 0 := by unfold Ar.wrong; rw [if_neg (by omega), if_neg h2]
    have HW := hid hw; clear hw
    go_wp2
    go_ret
    have hgs := grown_set w g 2 (.int .i64 now)
    have hg := heap_setCell_same w g 2 _ _ (.int .i64 now) H.out.blk
    refine ⟨by rw [HW.out]; rfl, fun h => absurd HW.out h, fun _ => ⟨⟨hg, H.out.map.keep (hgs.block b H.out.map.lt (fun e => by injection e with e; exact H.out.ne e.symm)), H.out.ent.agree (Agree.of_grown hgs H.out.sl H.out.ng), H.out.ok.at ⟨by omega, by omega⟩ (by omega), fun q hq => Nat.lt_of_lt_of_le (H.out.sl q hq) hgs.size, H.out.ng, H.out.nb⟩, hgs⟩⟩
theorem lost_calls (S : Nat → Prop) (g b : Nat) (M : List (Int × Value)) (s : Ar) (w : World) (h : CSt S w g b M s) :
    Calls Try.prog 20 #[.pointer (some ⟨g, 0, none⟩)] w fun e w' => e = .returned (.int .i64 s.lost) ∧ w = w' := by
  obtain ⟨_, _, _, _, c4⟩ := h.cells
  clear h
  go_enter Try.func20, Try.ntmps20
  go_wp2
  go_ret
  exact ⟨rfl, rfl⟩
end Go.Proofs.Ytebfoigbiekeiaa
