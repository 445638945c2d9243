/-
  LAYER 9, WALKS: Send.
-/
import Derived.Test.YtebfoigbiekeiaaArpE
set_option linter.unusedVariables false
set_option linter.unusedSimpArgs false
namespace Go.Proofs.Ytebfoigbiekeiaa
open Go Go.RowKit

theorem Agree.refl (S : Nat → Prop) (w : World) : Agree S w w := ⟨Nat.le_refl _, fun _ _ => rfl⟩
theorem Done.bad {S : Nat → Prop} {g b : Nat} {M : List (Int × Value)} {s : Ar} {f : Ar × List (List Int) × Int} {w w' : World} {x : Int} (hs : f = (s, [], x)) (h : CSt S w' g b M s) (hg : Grown2 w w' g b) :
    Done S g b f w (.returned (.tuple #[.slice none 0 0, .int .i64 x])) w' := by
  subst hs
  exact ⟨_, S, M, rfl, h, fun q hq => .inl hq, FrS.nil _ _, hg⟩
theorem Rd.grown {w w' : World} {k : IntKind} {A : Option Addr} {xs : List Int} {g : Nat} (h : Rd w k A xs) (hg : w.grownBy w' (some g)) (hne : ∀ q o, A = some ⟨q, o, none⟩ → q ≠ g) : Rd w' k A xs :=
  h.kept hg (fun q o e e2 => hne q o e (by injection e2))
theorem Rd.grown0 {w w' : World} {k : IntKind} {A : Option Addr} {xs : List Int} {g : Nat} (h : Rd w k A xs) (hg : w.grownBy w' (some g)) (hne : xs.length ≠ 0 → ∀ q o, A = some ⟨q, o, none⟩ → q ≠ g) : Rd w' k A xs := by
  cases xs with
  | nil => exact Rd.nil _ _ _
  | cons x xs => exact h.grown hg (hne (by simp))
theorem Own.form {w : World} {base : Nat} {e : TypeId} {k : IntKind} {v : Value} {xs : List Int} (h : Own w base e k v xs) : ∃ A n c, v = .slice A n c := by
  rcases h.2 with ⟨rfl, _⟩ | ⟨g, cap, cur, rfl, _⟩ <;> exact ⟨_, _, _, rfl⟩
theorem OwnV.form {w : World} {base : Nat} {e : TypeId} {v : Value} {vs : List Value} (h : OwnV w base e v vs) : ∃ A n c, v = .slice A n c := by
  rcases h.2 with ⟨rfl, _⟩ | ⟨g, cap, cur, rfl, _⟩ <;> exact ⟨_, _, _, rfl⟩
theorem apart_row {a b : Value} {N : Nat} (ha : ∀ q, a.ownBlock = some q → N ≤ q) (hb : ∀ q, b.ownBlock = some q → q < N) : a.ownBlock = none ∨ a.ownBlock ≠ b.ownBlock := by
  cases e : a.ownBlock with
  | none => exact .inl rfl
  | some q => exact .inr fun e2 => by have h1 := ha q e; have h2 := hb q e2.symm; omega
/-- The cells of an entry. -/
abbrev enC (e : En) (A : Option Addr) (n c : Nat) : Array Value := #[.bool e.known, .int .u64 e.mac, .int .i64 e.at_, .int .i64 e.tries, .slice A n c]
theorem frame_one {T : Nat → Prop} {w : World} {N : Nat} {v : Value} {x : List Int} (h : Own w N 5 .u8 v x) (hT : ∀ q, N ≤ q → q < w.heap.size + 1 → T q) (hN : N ≤ w.heap.size) :
    FrS T (w.alloc (.cells #[v] 31)) (.slice (some ⟨w.heap.size, 0, none⟩) 1 1) [x] := by
  have hb : Below w.heap.size w (w.alloc (.cells #[v] 31)) := (Below.refl _ _).alloc (Nat.le_refl _) _
  have hs : (w.alloc (.cells #[v] 31)).heap.size = w.heap.size + 1 := by simp
  refine ⟨[v], OwnV.lit w 31 0 (Nat.zero_le _) [v] #[v] 1 rfl rfl (by simp [maxLen]), fun q hq => ?_, OwnS.of (h.below hb) (fun q h1 h2 => hT q h1 (by omega)), trivial⟩
  simp [Value.ownBlock] at hq
  subst hq
  exact hT _ hN (by omega)
/-- One more body is lost. -/
def Ar.gone (s : Ar) (k : Int) : Ar := { s with lost := s.lost + k }
theorem CSt.gone {S : Nat → Prop} {w : World} {g b : Nat} {M : List (Int × Value)} {s : Ar} (h : CSt S w g b M s) (k : Int) : CSt S (w.setCell ⟨g, 4, none⟩ (.int .i64 (s.lost + k))) g b M (s.gone k) := by
  have hgs := grown_set w g 4 (.int .i64 (s.lost + k))
  exact ⟨heap_setCell_same w g 4 _ _ (.int .i64 (s.lost + k)) h.blk, h.map.keep (hgs.block b h.map.lt (fun e => by injection e with e; exact h.ne e.symm)), h.ent.agree (Agree.of_grown hgs h.sl h.ng), ⟨h.ok.mac, h.ok.ip, h.ok.last, h.ok.rise, h.ok.key, h.ok.few, h.ok.en⟩, fun q hq => Nat.lt_of_lt_of_le (h.sl q hq) hgs.size, h.ng, h.nb⟩
theorem Own.sls {S : Nat → Prop} {w : World} {N : Nat} {v : Value} {x : List Int} (h : Own w N 5 .u8 v x) (hl : x.length ≤ 140737488355328) (hS : ∀ q, N ≤ q → q < w.heap.size → S q) : SlS S w v x := by
  obtain ⟨A, c, rfl, hA, hR, _⟩ := h.rd hl
  exact ⟨A, c, rfl, hR, hA, fun _ q o e => by subst e; have := h.lt q rfl; exact hS q this.1 this.2⟩
theorem OwnV.waits {S : Nat → Prop} {w : World} {N n c : Nat} {A : Option Addr} {vs : List Value} {L : List (List Int)} (h : OwnV w N 31 (.slice A n c) vs) (hs : SlsS S w vs L) (hS : ∀ q, N ≤ q → q < w.heap.size → S q) : WaitS S w A n c L := by
  obtain ⟨A', c', hv, hA, hR, hz⟩ := h.rd
  injection hv with h1 h2 h3
  subst h1; subst h2; subst h3
  refine ⟨⟨vs, rfl, hR, hs⟩, hA, fun _ q o e => ?_⟩
  subst e
  obtain ⟨_, rfl⟩ := hz q o rfl
  have := h.lt q rfl
  exact hS q this.1 this.2
theorem Ar.Ok.put {s : Ar} (h : s.Ok) {k : Int} (hk : 0 ≤ k ∧ k < 4294967296) {e : En} (he : 0 ≤ e.mac ∧ e.mac < 281474976710655 ∧ 0 ≤ e.at_ ∧ e.at_ ≤ s.last ∧ 0 ≤ e.tries ∧ e.tries ≤ 3 ∧ e.wait.length ≤ 4 ∧ (e.known = true → e.wait = []) ∧ ∀ b ∈ e.wait, Bytes b ∧ 1 ≤ b.length ∧ b.length ≤ 1500) (hf : (putK k e s.m).length ≤ 8) : ({ s with m := putK k e s.m } : Ar).Ok :=
  ⟨h.mac, h.ip, h.last, h.rise.put, fun p hp => by
    rcases mem_putK.1 hp with rfl | ⟨h1, _⟩
    · exact hk
    · exact h.key p h1, hf, fun p hp => by
    rcases mem_putK.1 hp with rfl | ⟨h1, _⟩
    · exact he
    · exact h.en p h1⟩
theorem Grown2.row {w w3 w4 : World} {g b en : Nat} (h : Grown2 w w3 g b) (hg : w3.grownBy w4 (some en)) (hen : w.heap.size ≤ en) : Grown2 w w4 g b :=
  ⟨hg.os.trans h.os, hg.tape.trans h.tape, hg.output.trans h.output, Nat.le_trans h.size hg.size, fun i hi h1 h2 => (hg.block i (Nat.lt_of_lt_of_le hi h.size) (fun e => by injection e with e; omega)).trans (h.block i hi h1 h2)⟩
theorem own_or_none (v : Value) : v.ownBlock = none ∨ v.ownBlock ≠ (Value.slice none 0 0).ownBlock := by
  cases v.ownBlock with
  | none => exact .inl rfl
  | some q => exact .inr (by show some q ≠ none; simp)
theorem grown_undrew {a b : World} {row : Option Nat} (h : a.drew.grownBy b row) : a.grownBy b row := ⟨h.os, h.tape, h.output, h.size, h.block⟩
theorem room_facts (s : Ar) : s.room.1.mac = s.mac ∧ s.room.1.ip = s.ip ∧ s.room.1.last = s.last ∧ s.room.1.lost = s.lost := by
  unfold Ar.room
  split
  · exact ⟨rfl, rfl, rfl, rfl⟩
  · split <;> exact ⟨rfl, rfl, rfl, rfl⟩
theorem room_few {s : Ar} (h : s.Ok) (hr : s.room.2 = true) : s.room.1.m.length < 8 := by
  by_cases h8 : s.m.length < 8
  · rw [room_small h8]; exact h8
  · cases ho : oldestOf none s.m with
    | none => rw [room_none h8 ho] at hr; cases hr
    | some p =>
      obtain ⟨k, a⟩ := p
      rw [room_some h8 ho]
      rcases oldest_mem _ _ ho with h1 | ⟨e, h1, _⟩
      · cases h1
      · have h2 := delK_len (k := k) s.m h.rise
        rw [lookK_of_mem h.rise h1] at h2
        simp at h2
        have := h.few
        show (delK k s.m).length < 8
        omega
theorem room_look {s : Ar} {k : Int} (h : lookK k s.m = none) : lookK k s.room.1.m = none := by
  rw [lookK_none] at h ⊢
  unfold Ar.room
  split
  · exact h
  · split
    · exact fun p hp => h p (mem_delK.1 hp).1
    · exact h
theorem send_done {S : Nat → Prop} {g b : Nat} {M : List (Int × Value)} {s : Ar} {w W w3 w4 w5 : World} {en n3 c3 Nd : Nat} {k : Int} {A3 : Option Addr} {e : En} {f : Ar × List (List Int) × Int} {F : List (List Int)} {vo vd : Value} {vs : List Value} {L : List (List Int)} {xs : List Int}
    (hen : w.heap.size ≤ en ∧ en < W.heap.size ∧ ¬ S en) (hG : Grown2 w W g b) (hC : CSt S W g b M s) (hX : Below W.heap.size W w3) (ho : OwnV w3 W.heap.size 31 (.slice A3 n3 c3) (vs ++ [vd])) (hd : Own w3 Nd 5 .u8 vd xs) (hNd : W.heap.size ≤ Nd) (hxl : xs.length ≤ 140737488355328) (hvs : SlsS S W vs L)
    (hg4 : w3.grownBy w4 (some en)) (hC4 : CSt S w4 g b M s) (hM5 : MapAt w5 Try.prog 28 b (putK k (.agg (enC e A3 n3 c3)) M)) (hg5 : w4.grownBy w5 (some b)) (hF : FrS (fun q => en < q ∧ q < W.heap.size ∧ ¬ S q ∧ q ≠ b) W vo F)
    (hok : ({ s with m := putK k ⟨e.known, e.mac, e.at_, e.tries, L ++ [xs]⟩ s.m } : Ar).Ok) (hf : f = ({ s with m := putK k ⟨e.known, e.mac, e.at_, e.tries, L ++ [xs]⟩ s.m }, F, 0)) :
    Done S g b f w (.returned (.tuple #[vo, .int .i64 0])) w5 := by
  subst hf
  have hsz := hG.size
  have hsz3 := hX.size
  have hsz4 := hg4.size
  have hsz5 := hg5.size
  have hgl := hC.lt
  have hbl := hC.map.lt
  let S' : Nat → Prop := fun q => S q ∨ (W.heap.size ≤ q ∧ q < w3.heap.size)
  have hS3 : ∀ q, S' q → q < w3.heap.size := fun q hq => by
    rcases hq with h | h
    · have := hC.sl q h; omega
    · exact h.2
  have hen' : ¬ S' en := fun hq => by
    rcases hq with h | h
    · exact hen.2.2 h
    · omega
  have hb' : ¬ S' b := fun hq => by
    rcases hq with h | h
    · exact hC.nb h
    · omega
  have hg' : ¬ S' g := fun hq => by
    rcases hq with h | h
    · exact hC.ng h
    · omega
  have hw3 : WaitS S' w3 A3 n3 c3 (L ++ [xs]) := ho.waits (((hvs.agree (Agree.of_below hX hC.sl)).sub (fun q h => .inl h)).append ⟨hd.sls hxl (fun q h1 h2 => .inr ⟨by omega, h2⟩), trivial⟩) (fun q h1 h2 => .inr ⟨h1, h2⟩)
  have hw5 := (hw3.agree (Agree.of_grown hg4 hS3 hen')).agree (Agree.of_grown hg5 (fun q hq => Nat.lt_of_lt_of_le (hS3 q hq) hsz4) hb')
  have he5 : EnS S' w5 (.agg (enC e A3 n3 c3)) ⟨e.known, e.mac, e.at_, e.tries, L ++ [xs]⟩ := ⟨A3, n3, c3, rfl, hw5⟩
  refine ⟨vo, S', _, rfl, ⟨(hg5.block g hC4.lt (fun e => by injection e with e; exact hC4.ne e)).trans hC4.blk, hM5, EnsS.put he5 ((hC4.ent.agree (Agree.of_grown hg5 hC4.sl hC4.nb)).sub (fun q h => .inl h)), hok, fun q hq => by have := hS3 q hq; omega, hg', hb'⟩, fun q hq => by
    rcases hq with h | h
    · exact .inl h
    · exact .inr (by omega), ?_, ((hG.trans (Grown2.of_below g b hX)).row hg4 hen.1).trans (Grown2.of_right g hg5)⟩
  exact (((hF.below hX).kept hg4 (fun h => by omega)).kept hg5 (fun h => h.2.2.2 rfl)).sub (fun q h => ⟨by omega, fun hq => by
    rcases hq with h1 | h1
    · exact h.2.2.1 h1
    · omega⟩)
set_option maxHeartbeats 12800000 in
set_option maxRecDepth 100000 in
theorem send_calls (S : Nat → Prop) (g b : Nat) (M : List (Int × Value)) (s : Ar) (to now : Int) (hto : 0 ≤ to ∧ to < 4294967296) (A : Option Addr) (n c : Nat) (xs : List Int) (hn : xs.length = n) (hB : Bytes xs) (w : World) (h : CSt S w g b M s) (hR : Rd w .u8 A xs) (hA : A = none → c = 0) (hne : xs.length ≠ 0 → ∀ q o, A = some ⟨q, o, none⟩ → q ≠ g ∧ q ≠ b) (hlo : 0 ≤ s.lost ∧ s.lost ≤ 4611686018427387904) :
    Calls Try.prog 14 #[.pointer (some ⟨g, 0, none⟩), .int .u32 to, .slice A n c, .int .i64 now] w (Done S g b (s.send to xs now) w) := by
  have H := hid h; have HB := hid (begin_calls S g b M s now w h); have HR := hid hR; have HBy := hid hB; have HN := hid hn; have HNE := hid hne; have HTO := hid hto; have HA := hid hA; have HLO := hid hlo
  clear h hR hB hn hne hto hA hlo
  go_enter Try.func14, Try.ntmps14
  go_wp2_with (go_at_call 28; refine hold ?_)
  refine hid ?_
  refine Calls.mono HB.out ?_
  rintro e w1 ⟨rfl, hbad, hgood⟩
  by_cases hw : s.wrong now = 0
  · obtain ⟨hc1, hg1⟩ := hgood hw
    have HS : Hid (s.send to xs now = (s.at now).send2 to xs now) := hid (by unfold Ar.send; rw [if_neg (by rw [hw]; decide)])
    rw [hw]
    have HLA : Hid ((s.at now).last = now) := hid rfl
    have HL1 : Hid (0 ≤ (s.at now).lost ∧ (s.at now).lost ≤ 4611686018427387904) := HLO
    generalize hs1 : s.at now = s1 at *
    have H1 := hid hc1
    have HR1 := hid (HR.out.grown0 hg1 (fun h0 q o e => (HNE.out h0 q o e).1))
    have HG1 := hid (Grown2.of_left b hg1)
    clear hbad hgood hw hc1 hg1 H HB HR
    have HLN : Hid (xs.length = n) := HN
    by_cases h0 : n = 0
    · have HX := hid (show s1.send2 to xs now = (s1, [], 6) by unfold Ar.send2; rw [if_pos (.inl (by rw [HN.out]; exact h0))])
      subst h0
      go_wp2
      go_ret2
      rw [HS.out]
      exact Done.bad HX.out H1.out HG1.out
    · have h0' : ¬ (n : Int) = 0 := by omega
      by_cases h15 : 1500 < n
      · have HX := hid (show s1.send2 to xs now = (s1, [], 6) by unfold Ar.send2; rw [if_pos (.inr (by rw [HN.out]; exact h15))])
        have h15' : (1500 : Int) < (n : Int) := by omega
        go_wp2
        go_ret2
        rw [HS.out]
        exact Done.bad HX.out H1.out HG1.out
      · have h15' : ¬ (1500 : Int) < (n : Int) := by omega
        have hq : ((n : Int) == 0) = false := by simpa using h0
        have hor : ¬ (((n : Int) == 0) = true ∨ (1500 : Int) < (n : Int)) := by rw [hq]; simp; omega
        have HNL := hid (show ¬ (xs.length = 0 ∨ 1500 < xs.length) by rw [HN.out]; omega)
        have c3 := H1.out.cells.2.2.2.1
        go_wp2_with (with_reducible refine hold_op (o := ⟨some 34, _, _, _, _, _⟩) ?_)
        refine hid ?_
        refine BigFrame.wpList_want rfl fun K hK => wp_mlook _ _ 70 28 78 rfl Try.underlying28 Try.underlying70 (zeroEn w1) b M H1.out.map rfl to rfl HTO.out (hK _ _ ?_)
        obtain ⟨th, e, A1, n1, c1, hv1, hth, hwt, hcase⟩ : ∃ (th : Bool) (e : En) (A1 : Option Addr) (n1 c1 : Nat), (lookK to M).getD (.agg #[.bool false, .int .u64 0, .int .i64 0, .int .i64 0, .slice none 0 0]) = .agg (enC e A1 n1 c1) ∧ (lookK to M).isSome = th ∧ WaitS S w1 A1 n1 c1 e.wait ∧ ((th = true ∧ lookK to s1.m = some e) ∨ (th = false ∧ lookK to s1.m = none ∧ e = ⟨false, 0, 0, 0, []⟩)) := by
          rcases H1.out.ent.look (x := to) with ⟨hl1, hl2⟩ | ⟨v, e, hl1, hl2, A1, n1, c1, rfl, hwt⟩
          · exact ⟨false, ⟨false, 0, 0, 0, []⟩, none, 0, 0, by rw [hl1]; rfl, by rw [hl1]; rfl, WaitS.none _ _, .inr ⟨rfl, hl2, rfl⟩⟩
          · exact ⟨true, e, A1, n1, c1, by rw [hl1]; rfl, by rw [hl1]; rfl, hwt, .inl ⟨rfl, hl2⟩⟩
        rw [hv1, hth]
        simp only [Act.put, List.setIfInBounds_toArray, List.set_cons_succ, List.set_cons_zero]
        have HCA := hid hcase
        have HWT := hid hwt
        clear hcase hwt hv1 hth c3
        go_wp2_with (with_reducible refine hold_op (o := ⟨none, _, _, _, _, _⟩) ?_)
        have hO1 : (w1.alloc (.cells #[.bool false, .int .u64 0, .int .i64 0, .int .i64 0, .slice none 0 0] 78)).heap[w1.heap.size]? = some (.cells #[.bool false, .int .u64 0, .int .i64 0, .int .i64 0, .slice none 0 0] 78 (0, 0)) := heap_alloc_new _ _
        have hP1 : Below w1.heap.size w1 (w1.alloc (.cells #[.bool false, .int .u64 0, .int .i64 0, .int .i64 0, .slice none 0 0] 78)) := (Below.refl _ _).alloc (Nat.le_refl _) _
        generalize w1.alloc (.cells #[.bool false, .int .u64 0, .int .i64 0, .int .i64 0, .slice none 0 0] 78) = wb at *
        refine hid ?_
        refine wpList_store_row rfl 78 (.tmp 11) (.tmp 35) rfl w1.heap.size (enC e A1 n1 c1) rfl rfl 78 _ hO1 (by kernel_rfl) rfl (by kernel_rfl) ?_
        have hW := setRow_heap wb w1.heap.size _ (enC e A1 n1 c1) 78 _ hO1
        have hBW := below_setRow hP1 (Nat.le_refl _) (enC e A1 n1 c1)
        generalize wb.setRow w1.heap.size (enC e A1 n1 c1) = w2 at *
        have HBW := hid hBW
        have HC2 := hid (H1.out.below hBW)
        have HG2 := hid (HG1.out.trans (Grown2.of_below g b hBW))
        have HR2 := hid (HR1.out.below hBW)
        have HWT2 := hid (HWT.out.agree (Agree.of_below hBW H1.out.sl))
        have HW := hid hW
        have HSZ := hid (lt_of_block hW)
        have e0 : w2.cell? ⟨w1.heap.size, 0, none⟩ = some (.bool e.known) := cellOf hW rfl
        have e1 : w2.cell? ⟨w1.heap.size, 1, none⟩ = some (.int .u64 e.mac) := cellOf hW rfl
        have e4 : w2.cell? ⟨w1.heap.size, 4, none⟩ = some (.slice A1 n1 c1) := cellOf hW rfl
        have HN1 := hid HWT.out.len
        clear hO1 hP1 hW hBW
        dsimp only [Act.put]
        obtain ⟨kn, mc, att, trs, L⟩ := e
        simp only at e0 e1 HCA HWT2 HWT HN1 ⊢
        cases kn with
        | true =>
          have hX : s1.send2 to xs now = (s1, [s1.bodyF mc xs], 0) ∧ 0 ≤ mc ∧ mc < 281474976710655 := by
            rcases HCA.out with ⟨_, h2⟩ | ⟨_, _, h3⟩
            · refine ⟨?_, ?_⟩
              · unfold Ar.send2
                rw [if_neg HNL.out, h2]
                simp
              · have h3 := H1.out.ok.en _ (lookK_some h2)
                exact ⟨h3.1, h3.2.1⟩
            · injection h3 with h3; cases h3
          have HX := hid hX
          have hmc := hX.2
          have c0 := HC2.out.cells.1
          have hmac := HC2.out.ok.mac
          clear hX
          go_wp2_with (go_at_call 30; refine hold ?_)
          refine hid ?_
          refine Calls.mono (cframe_calls g c n A s1.mac mc xs HN.out w2 c0 (by omega) (by omega) (by omega) HR2.out HA.out) ?_
          rintro er w3 ⟨v3, rfl, ho3, hb3⟩
          obtain ⟨A3, n3, c3, rfl⟩ := ho3.form
          have HO3 := hid ho3; have HB3 := hid hb3
          clear ho3 hb3 c0 hmac hmc
          go_wp2
          go_ret2
          have hb4 : Below w2.heap.size w2 (w3.alloc (.cells #[.slice A3 n3 c3] 31)) := HB3.out.alloc HB3.out.size _
          rw [HS.out, HX.out.1]
          have hz := HB3.out.size
          have hz1 := HSZ.out
          have hz0 := HG1.out.size
          refine ⟨_, S, M, rfl, HC2.out.below hb4, fun q hq => .inl hq, ?_, HG2.out.trans (Grown2.of_below g b hb4)⟩
          exact frame_one HO3.out (fun q h1 h2 => ⟨by omega, fun hq => by have := H1.out.sl q hq; omega⟩) hz
        | false =>
          have f4 := frozen_of_row w2 w1.heap.size 4 _ _ HW.out
          cases th with
          | true =>
            have hlk : lookK to s1.m = some ⟨false, mc, att, trs, L⟩ := by
              rcases HCA.out with ⟨_, h2⟩ | ⟨h1, _⟩
              · exact h2
              · cases h1
            have HLK := hid hlk
            clear hlk HCA
            by_cases h4 : n1 = 4
            · have h4' : (n1 : Int) = 4 := by omega
              have HX := hid (show s1.send2 to xs now = (s1.gone 1, [], 10) by
                unfold Ar.send2
                rw [if_neg HNL.out, HLK.out]
                have h1 := HN1.out
                have h2 : L.length = 4 := by omega
                simp [h2, Ar.gone])
              subst h4
              have g4 := HC2.out.cells.2.2.2.2
              have gf := frozen_of_row w2 g 4 _ _ HC2.out.blk
              have hll := HL1.out
              go_wp2
              go_ret2
              rw [HS.out]
              exact Done.bad HX.out (HC2.out.gone 1) (HG2.out.trans (Grown2.of_left b (grown_set w2 g 4 _)))
            · have h4' : ¬ (n1 : Int) = 4 := by omega
              have HX := hid (show s1.send2 to xs now = ({ s1 with m := putK to ⟨false, mc, att, trs, L ++ [xs]⟩ s1.m }, [], 0) by
                unfold Ar.send2
                rw [if_neg HNL.out, HLK.out]
                have h1 := HN1.out
                have h2 : ¬ L.length = 4 := by omega
                simp [h2])
              have h4n : n1 < 4 := by
                have h1 := H1.out.ok.en _ (lookK_some HLK.out)
                have h2 := h1.2.2.2.2.2.2.1
                have h3 := HN1.out
                simp only at h2
                omega
              obtain ⟨vs, hvl, hvr, hvs⟩ := HWT2.out.vs
              have hvn : vs.length ≤ 100000 := by have := HN1.out; omega
              have HVL := hid hvl; have HVR := hid hvr; have HVS := hid hvs
              clear hvl hvr hvs f4
              go_wp2_with (go_at_call 33; refine hold ?_)
              refine hid ?_
              refine Calls.mono (cloneV_calls c1 n1 A1 vs HVL.out w2 HVR.out HVS.out.one HWT2.out.nil (by omega)) ?_
              rintro ec wc ⟨vc, rfl, hoc, hbc⟩
              obtain ⟨Ac, nc, cc, rfl⟩ := hoc.form
              have HOC := hid hoc; have HBC := hid hbc
              clear hoc hbc
              go_wp2_with (go_at_call 27; refine hold ?_)
              refine hid ?_
              refine Calls.mono (clone_calls c n A xs HN.out wc (HR2.out.below HBC.out) HA.out (by omega)) ?_
              rintro ed wd ⟨vd, rfl, hod, hbd⟩
              obtain ⟨Ad, nd, cd, rfl⟩ := hod.form
              have HOD := hid hod; have HBD := hid hbd
              clear hod hbd
              go_wp2_with (at_builtin; refine hold ?_)
              have hbe : Below wd.heap.size wd (wd.alloc (.cells #[.slice Ad nd cd] 31)) := (Below.refl _ _).alloc (Nat.le_refl _) _
              have hle : OwnV (wd.alloc (.cells #[.slice Ad nd cd] 31)) 0 31 (.slice (some ⟨wd.heap.size, 0, none⟩) 1 1) [.slice Ad nd cd] := OwnV.lit wd 31 0 (Nat.zero_le _) [_] #[_] 1 rfl rfl (by simp [maxLen])
              obtain ⟨Al, cl, hlv, hx1, hrl, hx2⟩ := hle.rd
              injection hlv with hl1 hl2 hl3
              subst hl1
              refine hid ?_
              refine wpList_appV rfl _ _ 22 31 (.slice none 0 0) rfl 24 rfl elemF w2.heap.size (.slice Ac nc cc) vs rfl ((HOC.out.below HBD.out).below hbe) (some ⟨wd.heap.size, 0, none⟩) 1 1 [.slice Ad nd cd] rfl rfl (by simp) hrl (by simp [Value.oneCell']) (by omega) (by unfold maxLen; omega) (by have := HBC.out.size; have := HBD.out.size; simp; omega) ?_
              intro v3 w3 ho3 hg3 hat3
              obtain ⟨A3, n3, c3, rfl⟩ := ho3.form
              have hbx : Below w2.heap.size w2 w3 := (below_then (below_then HBC.out HBD.out) hbe).grown hg3 (by have := HBC.out.size; have := HBD.out.size; simp; omega) (fun q hq => (HOC.out.lt q hq).1)
              have hodx : Own w3 wc.heap.size 5 .u8 (.slice Ad nd cd) xs := (HOD.out.below hbe).kept hg3 (apart_row (fun q hq => (HOD.out.lt q hq).1) (fun q hq => (HOC.out.lt q hq).2))
              have HBX := hid hbx; have HODX := hid hodx; have HO3 := hid ho3
              have he3 := (hbx.block w1.heap.size HSZ.out).trans HW.out
              have f3 := frozen_of_row w3 w1.heap.size 4 _ _ he3
              have c34 : w3.cell? ⟨w1.heap.size, 4, none⟩ = some (.slice A1 n1 c1) := cellOf he3 rfl
              have HE3 := hid he3
              clear hle hl2 hl3 hx1 hx2 hrl hat3 hg3 hbx hodx ho3 he3 hbe HOD
              go_wp2_with fail
              have hgs := grown_set w3 w1.heap.size 4 (.slice A3 n3 c3)
              have hrow : (w3.setCell ⟨w1.heap.size, 4, none⟩ (.slice A3 n3 c3)).heap[w1.heap.size]? = some (.cells (enC ⟨false, mc, att, trs, L⟩ A3 n3 c3) 78 (0, 0)) := heap_setCell_same w3 w1.heap.size 4 _ _ (.slice A3 n3 c3) HE3.out
              have hcs3 := HC2.out.below HBX.out
              generalize hw4 : w3.setCell ⟨w1.heap.size, 4, none⟩ (.slice A3 n3 c3) = w4 at *
              have hgb : w4.heap[g]? = some (.cells #[.int .u64 s1.mac, .int .u32 s1.ip, .int .i64 s1.last, .map (some b), .int .i64 s1.lost] 72 (0, 0)) := (hgs.block g hcs3.lt (fun e => by injection e with e; have := H1.out.lt; omega)).trans hcs3.blk
              have hcs4 : CSt S w4 g b M s1 := hcs3.agree (Agree.of_grown hgs hcs3.sl (fun hq => by have := H1.out.sl _ hq; omega)) (hgb.trans hcs3.blk.symm) (hgs.block b hcs3.map.lt (fun e => by injection e with e; have := H1.out.map.lt; omega))
              have HCS4 := hid hcs4; have HGS := hid hgs; have HW4 := hid hw4
              have d1 : w4.drew.heap[g]? = _ := hgb
              have d2 : w4.drew.heap[w1.heap.size]? = _ := hrow
              clear hcs4 hgs hcs3 c34 f3 hw4
              refine wp_region_held_drew (S := fun W => W.heap[g]? = some (.cells #[.int .u64 s1.mac, .int .u32 s1.ip, .int .i64 s1.last, .map (some b), .int .i64 s1.lost] 72 (0, 0)) ∧ W.heap[w1.heap.size]? = some (.cells (enC ⟨false, mc, att, trs, L⟩ A3 n3 c3) 78 (0, 0))) (by kernel_rfl) ⟨d1, d2⟩ (fun hHeld => ?_)
              refine wpAnyH_take (i := 0) (oi := { dst := some 84, op := Op.move (Operand.tmp 0), type := 23, pos := "arp.go:109", after := #[], guard := none }) (v := ?_) rfl (by kernel_rfl) (by kernel_rfl) (by kernel_rfl) (fun _ _ _ h => h) (Or.inl ⟨by rfl, ?_⟩) hHeld ?_
              rotate_left
              · (intro w hSw; obtain ⟨k1, k2⟩ := hSw; go_simp; try with_reducible rfl)
              try simp only [Act.put, List.setIfInBounds_toArray, List.set_cons_succ, List.set_cons_zero]
              refine wpAnyH_take (i := 1) (oi := { dst := some 85, op := Op.nilCheck (Operand.tmp 84), type := 0, pos := "arp.go:109", after := #[{ on := 0, ground := Ground.data }], guard := none }) (v := ?_) rfl (by kernel_rfl) (by kernel_rfl) (by kernel_rfl) (fun _ _ _ h => h) (Or.inl ⟨by rfl, ?_⟩) hHeld ?_
              rotate_left
              · (intro w hSw; obtain ⟨k1, k2⟩ := hSw; go_simp; try with_reducible rfl)
              try simp only [Act.put, List.setIfInBounds_toArray, List.set_cons_succ, List.set_cons_zero]
              refine wpAnyH_take (i := 2) (oi := { dst := some 86, op := Op.fieldAddr 72 (Operand.tmp 85) 3, type := 0, pos := "arp.go:109", after := #[{ on := 1, ground := Ground.data }], guard := none }) (v := ?_) rfl (by kernel_rfl) (by kernel_rfl) (by kernel_rfl) (fun _ _ _ h => h) (Or.inl ⟨by rfl, ?_⟩) hHeld ?_
              rotate_left
              · (intro w hSw; obtain ⟨k1, k2⟩ := hSw; go_simp; try with_reducible rfl)
              try simp only [Act.put, List.setIfInBounds_toArray, List.set_cons_succ, List.set_cons_zero]
              refine wpAnyH_take (i := 3) (oi := { dst := some 87, op := Op.load 70 (Operand.tmp 86), type := 70, pos := "arp.go:109", after := #[{ on := 2, ground := Ground.data }], guard := none }) (v := ?_) rfl (by kernel_rfl) (by kernel_rfl) (by kernel_rfl) (fun _ _ _ h => h) (Or.inl ⟨by rfl, ?_⟩) hHeld ?_
              rotate_left
              · (intro w hSw; obtain ⟨k1, k2⟩ := hSw; have k3 : w.cell? ⟨g, 3, none⟩ = some (.map (some b)) := cellOf k1 rfl; go_simp; first | with_reducible rfl | skip)
              try simp only [Act.put, List.setIfInBounds_toArray, List.set_cons_succ, List.set_cons_zero]
              refine wpAnyH_take (i := 4) (oi := { dst := some 88, op := Op.move (Operand.tmp 1), type := 28, pos := "arp.go:109", after := #[], guard := none }) (v := ?_) rfl (by kernel_rfl) (by kernel_rfl) (by kernel_rfl) (fun _ _ _ h => h) (Or.inl ⟨by rfl, ?_⟩) hHeld ?_
              rotate_left
              · (intro w hSw; obtain ⟨k1, k2⟩ := hSw; go_simp; try with_reducible rfl)
              try simp only [Act.put, List.setIfInBounds_toArray, List.set_cons_succ, List.set_cons_zero]
              refine wpAnyH_take (i := 5) (oi := { dst := some 89, op := Op.load 78 (Operand.tmp 11), type := 78, pos := "arp.go:109", after := #[], guard := none }) (v := ?_) rfl (by kernel_rfl) (by kernel_rfl) (by kernel_rfl) (fun _ _ _ h => h) (Or.inl ⟨by rfl, ?_⟩) hHeld ?_
              rotate_left
              · (intro w hSw; obtain ⟨k1, k2⟩ := hSw; have j0 : w.cell? ⟨w1.heap.size, 0, none⟩ = _ := cellOf k2 rfl; have j1 : w.cell? ⟨w1.heap.size, 1, none⟩ = _ := cellOf k2 rfl; have j2 : w.cell? ⟨w1.heap.size, 2, none⟩ = _ := cellOf k2 rfl; have j3 : w.cell? ⟨w1.heap.size, 3, none⟩ = _ := cellOf k2 rfl; have j4 : w.cell? ⟨w1.heap.size, 4, none⟩ = _ := cellOf k2 rfl; go_simp; first | with_reducible rfl | skip)
              try simp only [Act.put, List.setIfInBounds_toArray, List.set_cons_succ, List.set_cons_zero]
              refine wpAnyH_ready (rs := [6]) (by kernel_rfl) (by simp) ?_
              refine AllReadyH.cons (o := _) rfl (fun K hK => ?_) AllReadyH.nil
              refine wp_mput _ _ _ 70 28 78 rfl Try.underlying28 Try.underlying70 b M (HCS4.out.map.keep rfl) (by have := HCS4.out.ent.len; have := HCS4.out.ok.few; unfold maxLen; omega) rfl to rfl HTO.out _ rfl (fun w5 hM5 hg5 => ?_)
              refine hK.out _ _ ⟨(hg5.block g HCS4.out.lt (fun e => by injection e with e; exact HCS4.out.ne e)).trans hgb, (hg5.block w1.heap.size (lt_of_block hrow) (fun e => by injection e with e; have := H1.out.map.lt; omega)).trans hrow⟩ (fun hHeld => ?_)
              clear hHeld hK K
              refine wpAnyH_done (by kernel_rfl) ?_ _
              have HM5 := hid hM5; have HG5 := hid hg5
              clear hM5 hg5 d1 d2 hgb hrow
              go_wp2
              go_ret2
              rw [HS.out]
              refine send_done (e := ⟨false, mc, att, trs, L⟩) (en := w1.heap.size) ⟨HG1.out.size, HSZ.out, fun hq => by have := H1.out.sl _ hq; omega⟩ HG2.out HC2.out HBX.out HO3.out HODX.out HBC.out.size (by have := HN.out; omega) HVS.out HGS.out HCS4.out HM5.out (grown_undrew HG5.out) (FrS.nil _ _) ?_ HX.out
              refine HC2.out.ok.put HTO.out ?_ ?_
              · have h1 := HC2.out.ok.en _ (lookK_some HLK.out)
                obtain ⟨a1, a2, a3, a4, a5, a6, a7, a8, a9⟩ := h1
                refine ⟨a1, a2, a3, a4, a5, a6, ?_, by simp, fun y hy => ?_⟩
                · have h3 := HN1.out
                  simp
                  omega
                · rcases List.mem_append.1 hy with h | h
                  · exact a9 y h
                  · simp at h
                    subst h
                    exact ⟨HBy.out, by have := HN.out; omega, by have := HN.out; omega⟩
              · rw [putK_len _ HC2.out.ok.rise, HLK.out]
                exact HC2.out.ok.few
          | false =>
            obtain ⟨hlk, rfl, rfl, rfl, rfl⟩ : lookK to s1.m = none ∧ mc = 0 ∧ att = 0 ∧ trs = 0 ∧ L = [] := by
              rcases HCA.out with ⟨h1, _⟩ | ⟨_, h2, h3⟩
              · cases h1
              · injection h3 with h3 h4 h5 h6 h7; exact ⟨h2, h4, h5, h6, h7⟩
            have HLK := hid hlk
            clear hlk HCA f4
            have h40 := HN1.out
            have h4' : ¬ (n1 : Int) = 4 := by simp at h40; omega
            clear h40
            go_wp2_with (go_at_call 29; refine hold ?_)
            refine hid ?_
            refine Calls.mono (room_calls S g b M s1 w2 HC2.out) ?_
            rintro er wr ⟨M2, rfl, hcr, hgr⟩
            have HCR := hid hcr
            have HGR := hid hgr
            have hwr := (hgr.block w1.heap.size HSZ.out (fun e => by injection e with e; have := H1.out.map.lt; omega)).trans HW.out
            have hszr : w1.heap.size < wr.heap.size := Nat.lt_of_lt_of_le HSZ.out hgr.size
            have HG3 := hid (HG2.out.trans (Grown2.of_right g hgr))
            have HR3 := hid (HR2.out.grown0 hgr (fun h0 q o e => (HNE.out h0 q o e).2))
            have HWT3 := hid (HWT2.out.agree (Agree.of_grown hgr HC2.out.sl HC2.out.nb))
            have HWR := hid hwr; have HSZR := hid hszr
            clear hcr hgr hwr hszr e0 e1 e4
            cases hroom : s1.room.2 with
            | false =>
              have HX := hid (show s1.send2 to xs now = (s1.room.1.gone 1, [], 10) by
                unfold Ar.send2
                rw [if_neg HNL.out, HLK.out]
                simp [hroom, Ar.gone, (room_facts s1).2.2.2])
              have hlr := (room_facts s1).2.2.2
              generalize s1.room.1 = s2 at *
              have g4 := HCR.out.cells.2.2.2.2
              have gf := frozen_of_row wr g 4 _ _ HCR.out.blk
              have hll := HL1.out
              rw [← hlr] at hll
              clear hlr
              go_wp2
              go_ret2
              rw [HS.out]
              exact Done.bad HX.out (HCR.out.gone 1) (HG3.out.trans (Grown2.of_left b (grown_set wr g 4 _)))
            | true =>
              have HX := hid (show s1.send2 to xs now = ({ s1.room.1 with m := putK to ⟨false, 0, now, 1, [] ++ [xs]⟩ s1.room.1.m }, [s1.arpF 1 281474976710655 0 to], 0) by
                unfold Ar.send2
                rw [if_neg HNL.out, HLK.out]
                simp [hroom])
              have HFEW := hid (room_few HC2.out.ok hroom)
              have HLK2 := hid (room_look HLK.out)
              obtain ⟨hm1, hm2, hm3, hm4⟩ := room_facts s1
              have HRF := hid (room_facts s1)
              clear hm1 hm2 hm3 hm4
              generalize s1.room.1 = s2 at *
              have r2 : wr.cell? ⟨w1.heap.size, 2, none⟩ = some (.int .i64 0) := cellOf HWR.out rfl
              have r3 : wr.cell? ⟨w1.heap.size, 3, none⟩ = some (.int .i64 0) := cellOf HWR.out rfl
              have q2 := frozen_of_row wr w1.heap.size 2 _ _ HWR.out
              have hw5 := heap_setCell_same wr w1.heap.size 2 _ _ (.int .i64 now) HWR.out
              have q3 := frozen_of_row _ w1.heap.size 3 _ _ hw5
              have HW5 := hid hw5
              clear hw5
              go_wp2_with (go_at_call 32; refine hold ?_)
              have hgs := grown_trans (grown_set wr w1.heap.size 2 (.int .i64 now)) (grown_set (wr.setCell ⟨w1.heap.size, 2, none⟩ (.int .i64 now)) w1.heap.size 3 (.int .i64 1))
              have hrow : ((wr.setCell ⟨w1.heap.size, 2, none⟩ (.int .i64 now)).setCell ⟨w1.heap.size, 3, none⟩ (.int .i64 1)).heap[w1.heap.size]? = some (.cells (enC ⟨false, 0, now, 1, []⟩ A1 n1 c1) 78 (0, 0)) := heap_setCell_same _ w1.heap.size 3 _ _ (.int .i64 1) HW5.out
              generalize (wr.setCell ⟨w1.heap.size, 2, none⟩ (.int .i64 now)).setCell ⟨w1.heap.size, 3, none⟩ (.int .i64 1) = ws at *
              have hne : ¬ S w1.heap.size := fun hq => by have := H1.out.sl _ hq; omega
              have hcs : CSt S ws g b M2 s2 := HCR.out.agree (Agree.of_grown hgs HCR.out.sl hne) (hgs.block g HCR.out.lt (fun e => by injection e with e; have := H1.out.lt; omega)) (hgs.block b HCR.out.map.lt (fun e => by injection e with e; have := H1.out.map.lt; omega))
              have HCS := hid hcs
              have HGS0 := hid (HG3.out.row hgs HG1.out.size)
              have HRS := hid (HR3.out.kept hgs (fun q o e e2 => by
                injection e2 with e2
                subst e2
                rcases Nat.eq_zero_or_pos n with h | h
                · exact h0 h
                · obtain ⟨q, o', e3, hl3, _⟩ := HR1.out.at_ 0 (by have := HN.out; omega)
                  rw [e] at e3
                  injection e3 with e3
                  injection e3 with e3
                  omega))
              have HWTS := hid (HWT3.out.agree (Agree.of_grown hgs HCR.out.sl hne))
              have HROW := hid hrow
              have c0 := hcs.cells.1
              have c1' := hcs.cells.2.1
              clear hgs hrow hcs r2 r3 q2 q3
              refine hid ?_
              refine Calls.mono (question_calls g s2.mac s2.ip to ws HCS.out.lt c0 c1' (by have := HCS.out.ok.mac; omega) HCS.out.ok.ip HTO.out) ?_
              rintro eq wq ⟨vq, rfl, hoq, hbq⟩
              obtain ⟨Aq, nq, cq, rfl⟩ := hoq.form
              have HOQ := hid hoq; have HBQ := hid hbq
              clear hoq hbq c0 c1'
              go_wp2_with (at_builtin; refine hold ?_)
              have hbe : Below wq.heap.size wq (wq.alloc (.cells #[.slice Aq nq cq] 31)) := (Below.refl _ _).alloc (Nat.le_refl _) _
              have hle : OwnV (wq.alloc (.cells #[.slice Aq nq cq] 31)) 0 31 (.slice (some ⟨wq.heap.size, 0, none⟩) 1 1) [.slice Aq nq cq] := OwnV.lit wq 31 0 (Nat.zero_le _) [_] #[_] 1 rfl rfl (by simp [maxLen])
              obtain ⟨Al, cl, hlv, hx1, hrl, hx2⟩ := hle.rd
              injection hlv with hl1 hl2 hl3
              subst hl1
              refine hid ?_
              refine wpList_appV rfl _ _ 22 31 (.slice none 0 0) rfl 24 rfl elemF ws.heap.size (.slice none 0 0) [] rfl (OwnV.nil _ _ _) (some ⟨wq.heap.size, 0, none⟩) 1 1 [.slice Aq nq cq] rfl rfl (by simp) hrl (by simp [Value.oneCell']) (by simp) (by simp [maxLen]) (by have := HBQ.out.size; simp; omega) ?_
              intro v5 wt ho5 hg5 hat5
              obtain ⟨A5, n5, c5, rfl⟩ := ho5.form
              have hbt : Below ws.heap.size ws wt := (below_then HBQ.out hbe).grown hg5 (by have := HBQ.out.size; simp; omega) (fun q hq => by simp [Value.ownBlock] at hq)
              have hfr : FrS (fun q => ws.heap.size ≤ q ∧ q < wt.heap.size) wt (.slice A5 n5 c5) [s1.arpF 1 281474976710655 0 to] := by
                refine ⟨_, ho5.base 0 (Nat.zero_le _), fun q hq => ho5.lt q hq, ?_, trivial⟩
                have h1 := ((HOQ.out.below hbe).kept hg5 (own_or_none _))
                have h2 : etherB 281474976710655 s2.mac 2054 (arpB 1 s2.mac s2.ip 0 to) = s1.arpF 1 281474976710655 0 to := by
                  unfold Ar.arpF
                  rw [HRF.out.1, HRF.out.2.1]
                rw [h2] at h1
                exact OwnS.of h1 (fun q a1 a2 => ⟨a1, a2⟩)
              have HBT := hid hbt; have HFR := hid hfr
              have HCT := hid (HCS.out.below hbt)
              have HGT := hid (HGS0.out.trans (Grown2.of_below g b hbt))
              have HRT := hid (HRS.out.below hbt)
              have HWTT0 := hid (HWTS.out.agree (Agree.of_below hbt HCS.out.sl))
              have HST := hid (lt_of_block HROW.out)
              have HWT5 := hid ((hbt.block w1.heap.size HST.out).trans HROW.out)
              have HSZT5 := hid (lt_of_block HWT5.out)
              have e4 : wt.cell? ⟨w1.heap.size, 4, none⟩ = some (.slice A1 n1 c1) := cellOf HWT5.out rfl
              have f4 := frozen_of_row wt w1.heap.size 4 _ _ HWT5.out
              have h4n : n1 < 4 := by have := HN1.out; simp at this; omega
              clear hle hl2 hl3 hx1 hx2 hrl hat5 hg5 hbt hfr ho5 hbe
              obtain ⟨vs, hvl, hvr, hvs⟩ := HWTT0.out.vs
              have hvn : vs.length ≤ 100000 := by have := HN1.out; omega
              have HVL := hid hvl; have HVR := hid hvr; have HVS := hid hvs
              clear hvl hvr hvs f4
              go_wp2_with (go_at_call 33; refine hold ?_)
              refine hid ?_
              refine Calls.mono (cloneV_calls c1 n1 A1 vs HVL.out wt HVR.out HVS.out.one HWTT0.out.nil (by omega)) ?_
              rintro ec wc ⟨vc, rfl, hoc, hbc⟩
              obtain ⟨Ac, nc, cc, rfl⟩ := hoc.form
              have HOC := hid hoc; have HBC := hid hbc
              clear hoc hbc
              go_wp2_with (go_at_call 27; refine hold ?_)
              refine hid ?_
              refine Calls.mono (clone_calls c n A xs HN.out wc (HRT.out.below HBC.out) HA.out (by omega)) ?_
              rintro ed wd ⟨vd, rfl, hod, hbd⟩
              obtain ⟨Ad, nd, cd, rfl⟩ := hod.form
              have HOD := hid hod; have HBD := hid hbd
              clear hod hbd
              go_wp2_with (at_builtin; refine hold ?_)
              have hbe : Below wd.heap.size wd (wd.alloc (.cells #[.slice Ad nd cd] 31)) := (Below.refl _ _).alloc (Nat.le_refl _) _
              have hle : OwnV (wd.alloc (.cells #[.slice Ad nd cd] 31)) 0 31 (.slice (some ⟨wd.heap.size, 0, none⟩) 1 1) [.slice Ad nd cd] := OwnV.lit wd 31 0 (Nat.zero_le _) [_] #[_] 1 rfl rfl (by simp [maxLen])
              obtain ⟨Al, cl, hlv, hx1, hrl, hx2⟩ := hle.rd
              injection hlv with hl1 hl2 hl3
              subst hl1
              refine hid ?_
              refine wpList_appV rfl _ _ 22 31 (.slice none 0 0) rfl 24 rfl elemF wt.heap.size (.slice Ac nc cc) vs rfl ((HOC.out.below HBD.out).below hbe) (some ⟨wd.heap.size, 0, none⟩) 1 1 [.slice Ad nd cd] rfl rfl (by simp) hrl (by simp [Value.oneCell']) (by omega) (by unfold maxLen; omega) (by have := HBC.out.size; have := HBD.out.size; simp; omega) ?_
              intro v3 w3 ho3 hg3 hat3
              obtain ⟨A3, n3, c3, rfl⟩ := ho3.form
              have hbx : Below wt.heap.size wt w3 := (below_then (below_then HBC.out HBD.out) hbe).grown hg3 (by have := HBC.out.size; have := HBD.out.size; simp; omega) (fun q hq => (HOC.out.lt q hq).1)
              have hodx : Own w3 wc.heap.size 5 .u8 (.slice Ad nd cd) xs := (HOD.out.below hbe).kept hg3 (apart_row (fun q hq => (HOD.out.lt q hq).1) (fun q hq => (HOC.out.lt q hq).2))
              have HBX := hid hbx; have HODX := hid hodx; have HO3 := hid ho3
              have he3 := (hbx.block w1.heap.size HSZT5.out).trans HWT5.out
              have f3 := frozen_of_row w3 w1.heap.size 4 _ _ he3
              have c34 : w3.cell? ⟨w1.heap.size, 4, none⟩ = some (.slice A1 n1 c1) := cellOf he3 rfl
              have HE3 := hid he3
              clear hle hl2 hl3 hx1 hx2 hrl hat3 hg3 hbx hodx ho3 he3 hbe HOD
              go_wp2_with fail
              have hgs := grown_set w3 w1.heap.size 4 (.slice A3 n3 c3)
              have hrow : (w3.setCell ⟨w1.heap.size, 4, none⟩ (.slice A3 n3 c3)).heap[w1.heap.size]? = some (.cells (enC ⟨false, 0, now, 1, []⟩ A3 n3 c3) 78 (0, 0)) := heap_setCell_same w3 w1.heap.size 4 _ _ (.slice A3 n3 c3) HE3.out
              have hcs3 := HCT.out.below HBX.out
              generalize hw4 : w3.setCell ⟨w1.heap.size, 4, none⟩ (.slice A3 n3 c3) = w4 at *
              have hgb : w4.heap[g]? = some (.cells #[.int .u64 s2.mac, .int .u32 s2.ip, .int .i64 s2.last, .map (some b), .int .i64 s2.lost] 72 (0, 0)) := (hgs.block g hcs3.lt (fun e => by injection e with e; have := H1.out.lt; omega)).trans hcs3.blk
              have hcs4 : CSt S w4 g b M2 s2 := hcs3.agree (Agree.of_grown hgs hcs3.sl (fun hq => by have := H1.out.sl _ hq; omega)) (hgb.trans hcs3.blk.symm) (hgs.block b hcs3.map.lt (fun e => by injection e with e; have := H1.out.map.lt; omega))
              have HCS4 := hid hcs4; have HGS := hid hgs; have HW4 := hid hw4
              have d1 : w4.drew.heap[g]? = _ := hgb
              have d2 : w4.drew.heap[w1.heap.size]? = _ := hrow
              clear hcs4 hgs hcs3 c34 f3 hw4
              refine wp_region_held_drew (S := fun W => W.heap[g]? = some (.cells #[.int .u64 s2.mac, .int .u32 s2.ip, .int .i64 s2.last, .map (some b), .int .i64 s2.lost] 72 (0, 0)) ∧ W.heap[w1.heap.size]? = some (.cells (enC ⟨false, 0, now, 1, []⟩ A3 n3 c3) 78 (0, 0))) (by kernel_rfl) ⟨d1, d2⟩ (fun hHeld => ?_)
              refine wpAnyH_take (i := 0) (oi := { dst := some 84, op := Op.move (Operand.tmp 0), type := 23, pos := "arp.go:109", after := #[], guard := none }) (v := ?_) rfl (by kernel_rfl) (by kernel_rfl) (by kernel_rfl) (fun _ _ _ h => h) (Or.inl ⟨by rfl, ?_⟩) hHeld ?_
              rotate_left
              · (intro w hSw; obtain ⟨k1, k2⟩ := hSw; go_simp; try with_reducible rfl)
              try simp only [Act.put, List.setIfInBounds_toArray, List.set_cons_succ, List.set_cons_zero]
              refine wpAnyH_take (i := 1) (oi := { dst := some 85, op := Op.nilCheck (Operand.tmp 84), type := 0, pos := "arp.go:109", after := #[{ on := 0, ground := Ground.data }], guard := none }) (v := ?_) rfl (by kernel_rfl) (by kernel_rfl) (by kernel_rfl) (fun _ _ _ h => h) (Or.inl ⟨by rfl, ?_⟩) hHeld ?_
              rotate_left
              · (intro w hSw; obtain ⟨k1, k2⟩ := hSw; go_simp; try with_reducible rfl)
              try simp only [Act.put, List.setIfInBounds_toArray, List.set_cons_succ, List.set_cons_zero]
              refine wpAnyH_take (i := 2) (oi := { dst := some 86, op := Op.fieldAddr 72 (Operand.tmp 85) 3, type := 0, pos := "arp.go:109", after := #[{ on := 1, ground := Ground.data }], guard := none }) (v := ?_) rfl (by kernel_rfl) (by kernel_rfl) (by kernel_rfl) (fun _ _ _ h => h) (Or.inl ⟨by rfl, ?_⟩) hHeld ?_
              rotate_left
              · (intro w hSw; obtain ⟨k1, k2⟩ := hSw; go_simp; try with_reducible rfl)
              try simp only [Act.put, List.setIfInBounds_toArray, List.set_cons_succ, List.set_cons_zero]
              refine wpAnyH_take (i := 3) (oi := { dst := some 87, op := Op.load 70 (Operand.tmp 86), type := 70, pos := "arp.go:109", after := #[{ on := 2, ground := Ground.data }], guard := none }) (v := ?_) rfl (by kernel_rfl) (by kernel_rfl) (by kernel_rfl) (fun _ _ _ h => h) (Or.inl ⟨by rfl, ?_⟩) hHeld ?_
              rotate_left
              · (intro w hSw; obtain ⟨k1, k2⟩ := hSw; have k3 : w.cell? ⟨g, 3, none⟩ = some (.map (some b)) := cellOf k1 rfl; go_simp; first | with_reducible rfl | skip)
              try simp only [Act.put, List.setIfInBounds_toArray, List.set_cons_succ, List.set_cons_zero]
              refine wpAnyH_take (i := 4) (oi := { dst := some 88, op := Op.move (Operand.tmp 1), type := 28, pos := "arp.go:109", after := #[], guard := none }) (v := ?_) rfl (by kernel_rfl) (by kernel_rfl) (by kernel_rfl) (fun _ _ _ h => h) (Or.inl ⟨by rfl, ?_⟩) hHeld ?_
              rotate_left
              · (intro w hSw; obtain ⟨k1, k2⟩ := hSw; go_simp; try with_reducible rfl)
              try simp only [Act.put, List.setIfInBounds_toArray, List.set_cons_succ, List.set_cons_zero]
              refine wpAnyH_take (i := 5) (oi := { dst := some 89, op := Op.load 78 (Operand.tmp 11), type := 78, pos := "arp.go:109", after := #[], guard := none }) (v := ?_) rfl (by kernel_rfl) (by kernel_rfl) (by kernel_rfl) (fun _ _ _ h => h) (Or.inl ⟨by rfl, ?_⟩) hHeld ?_
              rotate_left
              · (intro w hSw; obtain ⟨k1, k2⟩ := hSw; have j0 : w.cell? ⟨w1.heap.size, 0, none⟩ = _ := cellOf k2 rfl; have j1 : w.cell? ⟨w1.heap.size, 1, none⟩ = _ := cellOf k2 rfl; have j2 : w.cell? ⟨w1.heap.size, 2, none⟩ = _ := cellOf k2 rfl; have j3 : w.cell? ⟨w1.heap.size, 3, none⟩ = _ := cellOf k2 rfl; have j4 : w.cell? ⟨w1.heap.size, 4, none⟩ = _ := cellOf k2 rfl; go_simp; first | with_reducible rfl | skip)
              try simp only [Act.put, List.setIfInBounds_toArray, List.set_cons_succ, List.set_cons_zero]
              refine wpAnyH_ready (rs := [6]) (by kernel_rfl) (by simp) ?_
              refine AllReadyH.cons (o := _) rfl (fun K hK => ?_) AllReadyH.nil
              refine wp_mput _ _ _ 70 28 78 rfl Try.underlying28 Try.underlying70 b M2 (HCS4.out.map.keep rfl) (by have := HCS4.out.ent.len; have := HCS4.out.ok.few; unfold maxLen; omega) rfl to rfl HTO.out _ rfl (fun w5 hM5 hg5 => ?_)
              refine hK.out _ _ ⟨(hg5.block g HCS4.out.lt (fun e => by injection e with e; exact HCS4.out.ne e)).trans hgb, (hg5.block w1.heap.size (lt_of_block hrow) (fun e => by injection e with e; have := H1.out.map.lt; omega)).trans hrow⟩ (fun hHeld => ?_)
              clear hHeld hK K
              refine wpAnyH_done (by kernel_rfl) ?_ _
              have HM5 := hid hM5; have HG5 := hid hg5
              clear hM5 hg5 d1 d2 hgb hrow
              go_wp2
              go_ret2
              rw [HS.out]
              refine send_done (e := ⟨false, 0, now, 1, []⟩) (en := w1.heap.size) ⟨HG1.out.size, HSZT5.out, fun hq => by have := H1.out.sl _ hq; omega⟩ HGT.out HCT.out HBX.out HO3.out HODX.out HBC.out.size (by have := HN.out; omega) HVS.out HGS.out HCS4.out HM5.out (grown_undrew HG5.out) (HFR.out.sub (fun q hq => ⟨by have := HST.out; omega, hq.2, fun h => by have := H1.out.sl _ h; have := HST.out; omega, fun h => by have := HCS.out.map.lt; omega⟩)) ?_ HX.out
              refine HCT.out.ok.put HTO.out ?_ ?_
              · have h1 := HCT.out.ok.last
                have h2 := HRF.out.2.2.1
                have h3 := HLA.out
                rw [h2, h3] at h1
                refine ⟨(by show (0 : Int) ≤ 0; omega), (by show (0 : Int) < 281474976710655; omega), h1.1, by rw [h2, h3]; exact Int.le_refl _, by simp, by simp, by simp, by simp, fun y hy => ?_⟩
                simp at hy
                subst hy
                exact ⟨HBy.out, by have := HN.out; omega, by have := HN.out; omega⟩
              · rw [putK_len _ HCT.out.ok.rise, HLK2.out]
                have := HFEW.out
                simp
                omega
  · obtain rfl := hbad hw
    have HX := hid (show s.send to xs now = (s, [], s.wrong now) by unfold Ar.send; rw [if_pos hw])
    clear hbad hgood HB HR
    go_wp2
    go_ret2
    exact Done.bad HX.out H.out (Grown2.refl _ _ _)
end Go.Proofs.Ytebfoigbiekeiaa
