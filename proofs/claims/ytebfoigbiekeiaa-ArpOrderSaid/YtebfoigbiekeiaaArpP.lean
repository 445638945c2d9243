/-
  LAYER 9: every body is told in a frame once, or waits, or is lost: plain.
-/
import Derived.Test.YtebfoigbiekeiaaEthD
import Derived.Test.YtebfoigbiekeiaaArpL
set_option linter.unusedVariables false
set_option linter.unusedSimpArgs false
namespace Go.Proofs.Ytebfoigbiekeiaa
open Go Go.RowKit

theorem numI_be (n : Nat) : ∀ v : Int, 0 ≤ v → v < 256 ^ n → numI (be v n) = v := by
  induction n with
  | zero => intro v h0 h1; simp at h1; simp [be, numI]; omega
  | succ n ih =>
    intro v h0 h1
    have e : be v (n + 1) = be (v / 256) n ++ [v % 256] := by
      unfold be
      rw [List.range_succ, List.map_append]
      simp only [List.map_cons, List.map_nil, Nat.add_sub_cancel, Nat.sub_self, Int.pow_zero, Int.ediv_one]
      congr 1
      apply List.map_congr_left
      intro i hi
      have hi' := List.mem_range.1 hi
      rw [Int.ediv_ediv_of_nonneg (by omega), ← Int.pow_succ', show n - i = (n - 1 - i) + 1 by omega]
    rw [e, numI_snoc, ih (v / 256) (Int.ediv_nonneg h0 (by omega)) (by rw [Int.pow_succ] at h1; exact Int.ediv_lt_of_lt_mul (by omega) h1)]
    omega
theorem numAt_be (xs : List Int) (v : Int) (n : Nat) (ys : List Int) (h0 : 0 ≤ v) (h1 : v < 256 ^ n) (p : Nat) (hp : p = xs.length) : numAt (xs ++ (be v n ++ ys)) p n = v := by
  subst hp
  unfold numAt
  rw [List.drop_left, List.take_left' (be_length v n)]
  exact numI_be n v h0 h1
theorem ether_from (to frm kind : Int) (body : List Int) (h0 : 0 ≤ frm ∧ frm < 281474976710656) : numAt (etherB to frm kind body) 6 6 = frm := by
  unfold etherB
  rw [List.append_assoc, List.append_assoc]
  exact numAt_be _ _ _ _ h0.1 (by have := h0.2; rw [pow6]; exact this) 6 (be_length _ _).symm
theorem ether_kind (to frm kind : Int) (body : List Int) (h0 : 0 ≤ kind ∧ kind < 65536) : numAt (etherB to frm kind body) 12 2 = kind := by
  unfold etherB
  rw [List.append_assoc]
  exact numAt_be _ _ _ _ h0.1 (by have := h0.2; rw [pow2]; exact this) 12 (by simp [be_length])
theorem ether_body (to frm kind : Int) (body : List Int) : (etherB to frm kind body).drop 14 = body := by
  unfold etherB
  exact List.drop_left' (by simp [be_length])
theorem ether_len (to frm kind : Int) (body : List Int) : (etherB to frm kind body).length = 14 + body.length := by
  simp [etherB, be_length]; omega
theorem ether_bytes (to frm kind : Int) (body : List Int) (h : Bytes body) : Bytes (etherB to frm kind body) :=
  (((be_bytes to 6).append (be_bytes frm 6)).append (be_bytes kind 2)).append h
theorem arpB_len (op fm fi tm ti : Int) : (arpB op fm fi tm ti).length = 28 := by simp [arpB, be_length]
theorem arpB_bytes (op fm fi tm ti : Int) : Bytes (arpB op fm fi tm ti) :=
  (((((be_bytes _ 6).append (be_bytes op 2)).append (be_bytes fm 6)).append (be_bytes fi 4)).append (be_bytes tm 6)).append (be_bytes ti 4)
/-- A frame of the card m. -/
structure FrM (m : Int) (x : List Int) : Prop where
  by_ : Bytes x
  lo : 15 ≤ x.length
  hi : x.length ≤ 1514
  frm : numAt x 6 6 = m
  kind : numAt x 12 2 = 2048 ∨ numAt x 12 2 = 2054
def isB (x : List Int) : Bool := decide (numAt x 12 2 = 2048)
theorem bodyF_frm {s : Ar} (h : s.Ok) (mac : Int) (body : List Int) (hb : Bytes body ∧ 1 ≤ body.length ∧ body.length ≤ 1500) : FrM s.mac (s.bodyF mac body) ∧ isB (s.bodyF mac body) = true := by
  have hk := ether_kind mac s.mac 2048 body (by omega)
  refine ⟨⟨ether_bytes _ _ _ _ hb.1, ?_, ?_, ether_from _ _ _ _ (by have := h.mac; omega), .inl hk⟩, by simp [isB, Ar.bodyF, hk]⟩
  · show 15 ≤ (etherB mac s.mac 2048 body).length
    rw [ether_len]; omega
  · show (etherB mac s.mac 2048 body).length ≤ 1514
    rw [ether_len]; omega
theorem arpF_frm {s : Ar} (h : s.Ok) (op to mac ip : Int) : FrM s.mac (s.arpF op to mac ip) ∧ isB (s.arpF op to mac ip) = false := by
  have hk := ether_kind to s.mac 2054 (arpB op s.mac s.ip mac ip) (by omega)
  refine ⟨⟨ether_bytes _ _ _ _ (arpB_bytes _ _ _ _ _), ?_, ?_, ether_from _ _ _ _ (by have := h.mac; omega), .inr hk⟩, by simp [isB, Ar.arpF, hk]⟩
  · show 15 ≤ (etherB to s.mac 2054 (arpB op s.mac s.ip mac ip)).length
    rw [ether_len, arpB_len]; omega
  · show (etherB to s.mac 2054 (arpB op s.mac s.ip mac ip)).length ≤ 1514
    rw [ether_len, arpB_len]; omega
/-- How many bodies wait. -/
def waits : List (Int × En) → Nat
  | [] => 0
  | p :: m => p.2.wait.length + waits m
theorem waits_ins (k : Int) (e : En) : ∀ m, waits (insK k e m) = e.wait.length + waits m
  | [] => rfl
  | (k', e') :: m => by
    simp only [insK]
    split
    · rfl
    · simp only [waits, waits_ins k e m]; omega
theorem waits_del {k : Int} : ∀ {m : List (Int × En)}, Rising m → waits (delK k m) + (match lookK k m with | some e => e.wait.length | none => 0) = waits m
  | [], _ => rfl
  | (k', e') :: m, h => by
    have hr := (List.pairwise_cons.1 h)
    simp only [delK, lookK]
    by_cases hk : k' = k
    · subst hk
      rw [if_pos rfl, if_pos rfl, delK_gone (fun p hp => by have := hr.1 p hp; simp only at this; omega)]
      simp only [waits]; omega
    · rw [if_neg hk, if_neg hk]
      have := waits_del (k := k) hr.2
      simp only [waits]
      omega
theorem waits_put {k : Int} {e : En} {m : List (Int × En)} (h : Rising m) : waits (putK k e m) + (match lookK k m with | some e => e.wait.length | none => 0) = waits m + e.wait.length := by
  have := waits_del (k := k) h
  unfold putK
  rw [waits_ins]
  omega
theorem waits_room {s : Ar} (h : s.Ok) : waits s.room.1.m = waits s.m := by
  by_cases h8 : s.m.length < 8
  · rw [room_small h8]
  · cases ho : oldestOf none s.m with
    | none => rw [room_none h8 ho]
    | some p =>
      obtain ⟨k, a⟩ := p
      rw [room_some h8 ho]
      rcases oldest_mem _ _ ho with h1 | ⟨e, h1, _, h3⟩
      · cases h1
      · have h2 := waits_del (k := k) h.rise
        rw [lookK_of_mem h.rise h1] at h2
        have h4 := (h.en _ h1).2.2.2.2.2.2.2.1 h3
        simp only at h2 h4
        rw [h4] at h2
        simpa using h2
/-- What a call keeps: n bodies more are told, wait, or are lost. -/
structure Keeps (s : Ar) (n : Int) (f : Ar × List (List Int) × Int) : Prop where
  sum : (f.2.1.countP isB : Int) + waits f.1.m + f.1.lost = waits s.m + s.lost + n
  frm : ∀ x ∈ f.2.1, FrM s.mac x
  mac : f.1.mac = s.mac
/-- What Send keeps. -/
def KS (s : Ar) (f : Ar × List (List Int) × Int) : Prop := Keeps s (if f.2.2 = 0 ∨ f.2.2 = 10 then 1 else 0) f
theorem KS.of {s : Ar} {f : Ar × List (List Int) × Int} (n : Int) (h : Keeps s n f) (hn : (if f.2.2 = 0 ∨ f.2.2 = 10 then (1 : Int) else 0) = n) : KS s f := by
  unfold KS
  rw [hn]
  exact h
theorem keeps_send {s : Ar} (h : s.Ok) {to : Int} {xs : List Int} {now : Int} (hB : Bytes xs) : KS s (s.send to xs now) := by
  by_cases hw : s.wrong now = 0
  · rw [show s.send to xs now = (s.at now).send2 to xs now by unfold Ar.send; rw [if_neg (by rw [hw]; decide)]]
    have hwr : 0 ≤ now ∧ now ≤ 1099511627776 ∧ s.last ≤ now := by
      unfold Ar.wrong at hw
      split at hw
      · cases hw
      · split at hw
        · cases hw
        · omega
    have hok := h.at (now := now) ⟨hwr.1, hwr.2.1⟩ hwr.2.2
    have e1 : waits (s.at now).m = waits s.m := rfl
    have e2 : (s.at now).lost = s.lost := rfl
    have e3 : (s.at now).mac = s.mac := rfl
    generalize s.at now = s1 at *
    unfold Ar.send2
    by_cases hx : xs.length = 0 ∨ 1500 < xs.length
    · rw [if_pos hx]
      exact KS.of 0 ⟨by simp; omega, by simp, e3⟩ (by simp)
    · rw [if_neg hx]
      have hbx : Bytes xs ∧ 1 ≤ xs.length ∧ xs.length ≤ 1500 := ⟨hB, by omega, by omega⟩
      cases hl : lookK to s1.m with
      | some e =>
        simp only
        have hen := hok.en _ (lookK_some hl)
        by_cases hk : e.known = true
        · rw [if_pos hk]
          have hf := bodyF_frm hok e.mac xs hbx
          refine KS.of 1 ⟨?_, ?_, e3⟩ (by simp)
          · simp [hf.2]; omega
          · intro x hx; simp at hx; subst hx; rw [← e3]; exact hf.1
        · rw [if_neg hk]
          by_cases h4 : e.wait.length = 4
          · rw [if_pos h4]
            exact KS.of 1 ⟨by simp; omega, by simp, e3⟩ (by simp)
          · rw [if_neg h4]
            have h5 := waits_put (k := to) (e := { e with wait := e.wait ++ [xs] }) hok.rise
            rw [hl] at h5
            refine KS.of 1 ⟨?_, by simp, e3⟩ (by simp)
            simp at h5 ⊢
            omega
      | none =>
        simp only
        have hf := room_facts s1
        have hwm := waits_room hok
        by_cases hr : s1.room.2 = true
        · rw [if_pos hr]
          have hro : Rising s1.room.1.m := by
            unfold Ar.room
            split
            · exact hok.rise
            · split
              · exact hok.rise.del
              · exact hok.rise
          have h5 := waits_put (k := to) (e := ⟨false, 0, now, 1, [xs]⟩) hro
          rw [room_look hl] at h5
          have ha := arpF_frm hok 1 281474976710655 0 to
          refine KS.of 1 ⟨?_, ?_, by show s1.room.1.mac = s.mac; rw [hf.1, e3]⟩ (by simp)
          · have h6 := hf.2.2.2
            simp [ha.2] at h5 ⊢
            omega
          · intro x hx; simp at hx; subst hx; rw [← e3]; exact ha.1
        · rw [if_neg hr]
          refine KS.of 1 ⟨?_, by simp, by show s1.room.1.mac = s.mac; rw [hf.1, e3]⟩ (by simp)
          have h6 := hf.2.2.2
          simp
          omega
  · rw [show s.send to xs now = (s, [], s.wrong now) by unfold Ar.send; rw [if_pos hw]]
    have h1 : ¬ (s.wrong now = 0 ∨ s.wrong now = 10) := by
      unfold Ar.wrong at hw ⊢
      split
      · decide
      · split
        · decide
        · rename_i h1 h2
          rw [if_neg h1, if_neg h2] at hw
          exact absurd rfl hw
    exact KS.of 0 ⟨by simp, by simp, rfl⟩ (if_neg h1)
theorem count_bodies {s : Ar} (h : s.Ok) (mac : Int) : ∀ (L : List (List Int)), (∀ b ∈ L, Bytes b ∧ 1 ≤ b.length ∧ b.length ≤ 1500) → (L.map (s.bodyF mac)).countP isB = L.length ∧ ∀ x ∈ L.map (s.bodyF mac), FrM s.mac x
  | [], _ => ⟨rfl, by simp⟩
  | b :: L, hb => by
    have ih := count_bodies h mac L (fun x hx => hb x (List.mem_cons_of_mem _ hx))
    have h1 := bodyF_frm h mac b (hb b (List.mem_cons_self ..))
    refine ⟨by simp [h1.2, ih.1], fun x hx => ?_⟩
    simp only [List.map_cons, List.mem_cons] at hx
    rcases hx with rfl | hx
    · exact h1.1
    · exact ih.2 x hx
theorem answer_keeps {s : Ar} (h : s.Ok) (a : Q) : (s.answer a).countP isB = 0 ∧ ∀ x ∈ s.answer a, FrM s.mac x := by
  unfold Ar.answer
  split
  · have h1 := arpF_frm h 2 a.fm a.fm a.fi
    exact ⟨by simp [h1.2], fun x hx => by simp at hx; subst hx; exact h1.1⟩
  · exact ⟨rfl, by simp⟩
theorem keeps_take {s : Ar} (h : s.Ok) (a : Q) (now : Int) : Keeps s 0 (s.take a now) := by
  unfold Ar.take
  by_cases hw : s.wrong now = 0
  · rw [if_neg (by rw [hw]; decide)]
    have hwr : 0 ≤ now ∧ now ≤ 1099511627776 ∧ s.last ≤ now := by
      unfold Ar.wrong at hw
      split at hw
      · cases hw
      · split at hw
        · cases hw
        · omega
    have hok := h.at (now := now) ⟨hwr.1, hwr.2.1⟩ hwr.2.2
    have e1 : waits (s.at now).m = waits s.m := rfl
    have e2 : (s.at now).lost = s.lost := rfl
    have e3 : (s.at now).mac = s.mac := rfl
    generalize s.at now = s1 at *
    have ha := answer_keeps hok a
    rw [e3] at ha
    unfold Ar.take2
    by_cases hx : a.fi = s1.ip ∨ 281474976710655 ≤ a.fm
    · rw [if_pos hx]
      exact ⟨by simp; omega, by simp, e3⟩
    · rw [if_neg hx]
      cases hl : lookK a.fi s1.m with
      | some e =>
        simp only
        have hen := hok.en _ (lookK_some hl)
        have hc := count_bodies hok a.fm e.wait hen.2.2.2.2.2.2.2.2
        have h5 := waits_put (k := a.fi) (e := ⟨true, a.fm, now, 0, []⟩) hok.rise
        rw [hl] at h5
        refine ⟨?_, ?_, e3⟩
        · simp only [List.countP_append, ha.1, hc.1]
          simp at h5 ⊢
          omega
        · intro x hx
          rcases List.mem_append.1 hx with hx | hx
          · rw [← e3]; exact hc.2 x hx
          · exact ha.2 x hx
      | none =>
        simp only
        have hf := room_facts s1
        have hwm := waits_room hok
        by_cases ht : a.ti = s1.ip
        · rw [if_pos ht]
          by_cases hr : s1.room.2 = true
          · rw [if_pos hr]
            have hro : Rising s1.room.1.m := by
              unfold Ar.room
              split
              · exact hok.rise
              · split
                · exact hok.rise.del
                · exact hok.rise
            have h5 := waits_put (k := a.fi) (e := ⟨true, a.fm, now, 0, []⟩) hro
            rw [room_look hl] at h5
            have h6 := hf.2.2.2
            refine ⟨?_, ha.2, by show s1.room.1.mac = s.mac; rw [hf.1, e3]⟩
            simp only [ha.1]
            simp at h5 ⊢
            omega
          · rw [if_neg hr]
            have h6 := hf.2.2.2
            refine ⟨?_, ha.2, by show s1.room.1.mac = s.mac; rw [hf.1, e3]⟩
            simp only [ha.1]
            simp
            omega
        · rw [if_neg ht]
          refine ⟨?_, ha.2, e3⟩
          simp only [ha.1]
          simp
          omega
  · rw [if_pos hw]
    exact ⟨by simp, by simp, rfl⟩
theorem tick_waits (now : Int) : ∀ m : List (Int × En), waits (tickL now m).1 + (tickL now m).2.2 = waits m
  | [] => rfl
  | (k, e) :: m => by
    have ih := tick_waits now m
    simp only [tickL]
    split
    · simp only [waits]; omega
    · split <;> (simp only [waits]; omega)
theorem keeps_tick {s : Ar} (h : s.Ok) (now : Int) : Keeps s 0 (s.tick now) := by
  unfold Ar.tick
  split
  · exact ⟨by simp, by simp, rfl⟩
  · have hc : ∀ L : List Int, (L.map fun k => s.arpF 1 281474976710655 0 k).countP isB = 0 ∧ ∀ x ∈ L.map fun k => s.arpF 1 281474976710655 0 k, FrM s.mac x := by
      intro L
      induction L with
      | nil => exact ⟨rfl, by simp⟩
      | cons k L ih =>
        have h1 := arpF_frm h 1 281474976710655 0 k
        refine ⟨by simp [h1.2]; simpa using ih.1, fun x hx => ?_⟩
        simp only [List.map_cons, List.mem_cons] at hx
        rcases hx with rfl | hx
        · exact h1.1
        · exact ih.2 x hx
    have ht := tick_waits now s.m
    refine ⟨?_, (hc _).2, rfl⟩
    simp only [(hc _).1]
    omega
theorem waits_append : ∀ (a c : List (Int × En)), waits (a ++ c) = waits a + waits c
  | [], c => by simp [waits]
  | p :: a, c => by simp only [List.cons_append, waits, waits_append a c]; omega
theorem waits_take (m : List (Int × En)) (k : Nat) (hk : k < m.length) : waits (m.take (k + 1)) = waits (m.take k) + m[k].2.wait.length := by
  rw [List.take_succ_eq_append_getElem hk, waits_append]
  rfl
theorem waits_le : ∀ (m : List (Int × En)), (∀ p ∈ m, p.2.wait.length ≤ 4) → waits m ≤ 4 * m.length
  | [], _ => by simp [waits]
  | p :: m, h => by
    have h1 := waits_le m (fun q hq => h q (List.mem_cons_of_mem _ hq))
    have h2 := h p (List.mem_cons_self ..)
    simp only [waits, List.length_cons]
    omega
theorem Ar.Ok.waits {s : Ar} (h : s.Ok) : waits s.m ≤ 32 := by
  have h1 := waits_le s.m (fun p hp => (h.en p hp).2.2.2.2.2.2.1)
  have := h.few
  omega
theorem len_send (s : Ar) (to : Int) (xs : List Int) (now : Int) : (s.send to xs now).2.1.length ≤ 9 := by
  unfold Ar.send
  split
  · simp
  · unfold Ar.send2
    split
    · simp
    · split
      · split
        · simp
        · split <;> simp
      · split <;> simp
theorem Ar.Ok.look {s : Ar} (h : s.Ok) (now : Int) {k : Int} {e : En} (hl : lookK k (s.at now).m = some e) : e.wait.length ≤ 4 :=
  (h.en _ (lookK_some (show lookK k s.m = some e from hl))).2.2.2.2.2.2.1
theorem len_take {s : Ar} (h : s.Ok) (a : Q) (now : Int) : (s.take a now).2.1.length ≤ 9 := by
  have ha : ∀ s1 : Ar, (s1.answer a).length ≤ 1 := fun s1 => by unfold Ar.answer; split <;> simp
  unfold Ar.take
  split
  · simp
  · unfold Ar.take2
    split
    · simp
    · split
      · rename_i hl
        have h1 := h.look now hl
        have h2 := ha (s.at now)
        simp only [List.length_append, List.length_map]
        omega
      · split
        · split <;> (have h2 := ha (s.at now); simp only; omega)
        · have h2 := ha (s.at now); simp only; omega
theorem len_tick {s : Ar} (h : s.Ok) (now : Int) : (s.tick now).2.1.length ≤ 9 := by
  have h1 := (tickL_len now s.m).2
  have h2 := h.few
  unfold Ar.tick
  split
  · simp
  · simp only [List.length_map]; omega
end Go.Proofs.Ytebfoigbiekeiaa
