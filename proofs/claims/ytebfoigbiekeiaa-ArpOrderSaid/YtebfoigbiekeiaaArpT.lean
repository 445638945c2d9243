/-
  LAYER 9: bodies for one address leave in the order in which they were sent: plain; what the law keeps in memory.
-/
import Derived.Test.YtebfoigbiekeiaaArpQ
import Derived.Test.YtebfoigbiekeiaaStr
set_option linter.unusedVariables false
set_option linter.unusedSimpArgs false
namespace Go.Proofs.Ytebfoigbiekeiaa
open Go Go.RowKit

/-- The bodies in frames, in their order. -/
def ipB (F : List (List Int)) : List (List Int) := (F.filter isB).map (·.drop 14)
theorem ipB_append (F G : List (List Int)) : ipB (F ++ G) = ipB F ++ ipB G := by simp [ipB]
theorem ipB_take (F : List (List Int)) (j : Nat) (hj : j < F.length) : ipB (F.take (j + 1)) = ipB (F.take j) ++ (if isB F[j] = true then [F[j].drop 14] else []) := by
  rw [List.take_succ_eq_append_getElem hj, ipB_append]
  congr 1
  unfold ipB
  by_cases h : isB F[j] = true
  · simp [h]
  · simp [h]
theorem ipB_bodies {s : Ar} (h : s.Ok) (mac : Int) : ∀ (L : List (List Int)), (∀ b ∈ L, Bytes b ∧ 1 ≤ b.length ∧ b.length ≤ 1500) → ipB (L.map (s.bodyF mac)) = L
  | [], _ => rfl
  | b :: L, hb => by
    have ih := ipB_bodies h mac L (fun x hx => hb x (List.mem_cons_of_mem _ hx))
    have h1 := bodyF_frm h mac b (hb b (List.mem_cons_self ..))
    unfold ipB at ih ⊢
    simp only [List.map_cons, List.filter_cons, h1.2, if_true, ih]
    congr 1
    first | done | exact ether_body _ _ _ _
/-- What waits for the address 2. -/
def WW (s : Ar) : List (List Int) := match lookK 2 s.m with | some e => e.wait | none => []
theorem lookK_putK {α : Type} {k : Int} {x : α} {M : List (Int × α)} (h : Rising M) : lookK k (putK k x M) = some x :=
  lookK_of_mem h.put (mem_putK.2 (.inl rfl))
theorem room_rise {s : Ar} (h : s.Ok) : Rising s.room.1.m := by
  unfold Ar.room
  split
  · exact h.rise
  · split
    · exact h.rise.del
    · exact h.rise
theorem wrong_iff (s : Ar) (now : Int) (h : s.wrong now = 0) : 0 ≤ now ∧ now ≤ 1099511627776 ∧ s.last ≤ now := by
  unfold Ar.wrong at h
  split at h
  · cases h
  · split at h
    · cases h
    · omega
theorem order_send {s : Ar} (h : s.Ok) {xs : List Int} {now : Int} (hB : Bytes xs) (hn : 0 ≤ now ∧ now ≤ 1099511627776) (hl : s.last ≤ now) :
    (((s.send 2 xs now).2.2 = 0 ∧ ipB (s.send 2 xs now).2.1 ++ WW (s.send 2 xs now).1 = WW s ++ [xs]) ∨ (¬ (s.send 2 xs now).2.2 = 0 ∧ ipB (s.send 2 xs now).2.1 = [] ∧ WW (s.send 2 xs now).1 = WW s)) ∧ (s.send 2 xs now).1.ip = s.ip ∧ (s.send 2 xs now).1.last = now := by
  have hw : s.wrong now = 0 := by unfold Ar.wrong; rw [if_neg (by omega), if_neg (by omega)]
  rw [show s.send 2 xs now = (s.at now).send2 2 xs now by unfold Ar.send; rw [if_neg (by rw [hw]; decide)]]
  have hok := h.at (now := now) hn hl
  have e1 : WW (s.at now) = WW s := rfl
  have e2 : (s.at now).ip = s.ip := rfl
  have e3 : (s.at now).last = now := rfl
  generalize s.at now = s1 at *
  rw [← e1, ← e2, ← e3]
  unfold Ar.send2
  by_cases hx : xs.length = 0 ∨ 1500 < xs.length
  · rw [if_pos hx]
    exact ⟨.inr ⟨by simp, rfl, rfl⟩, rfl, rfl⟩
  · rw [if_neg hx]
    have hbx : Bytes xs ∧ 1 ≤ xs.length ∧ xs.length ≤ 1500 := ⟨hB, by omega, by omega⟩
    cases hlk : lookK 2 s1.m with
    | some e =>
      simp only
      have hen := hok.en _ (lookK_some hlk)
      have hW : WW s1 = e.wait := by unfold WW; rw [hlk]
      by_cases hk : e.known = true
      · rw [if_pos hk]
        refine ⟨.inl ⟨rfl, ?_⟩, rfl, rfl⟩
        have h0 := hen.2.2.2.2.2.2.2.1 hk
        have hb := ipB_bodies hok e.mac [xs] (by simp; exact hbx)
        simp only [List.map_cons, List.map_nil] at hb
        rw [hb, hW, h0]
        rfl
      · rw [if_neg hk]
        by_cases h4 : e.wait.length = 4
        · rw [if_pos h4]
          exact ⟨.inr ⟨by simp, rfl, rfl⟩, rfl, rfl⟩
        · rw [if_neg h4]
          refine ⟨.inl ⟨rfl, ?_⟩, rfl, rfl⟩
          rw [hW]
          unfold WW
          rw [lookK_putK hok.rise]
          rfl
    | none =>
      simp only
      have hf := room_facts s1
      have hW : WW s1 = [] := by unfold WW; rw [hlk]
      by_cases hr : s1.room.2 = true
      · rw [if_pos hr]
        refine ⟨.inl ⟨rfl, ?_⟩, hf.2.1, hf.2.2.1⟩
        have ha := arpF_frm hok 1 281474976710655 0 2
        rw [hW]
        unfold WW
        rw [lookK_putK (room_rise hok)]
        simp [ipB, ha.2]
      · rw [if_neg hr]
        refine ⟨.inr ⟨by simp, rfl, ?_⟩, hf.2.1, hf.2.2.1⟩
        rw [hW]
        show WW s1.room.1 = []
        unfold WW
        rw [room_look hlk]
theorem order_take {s : Ar} (h : s.Ok) (hip : s.ip = 1) {now : Int} (hn : 0 ≤ now ∧ now ≤ 1099511627776) (hl : s.last ≤ now) :
    ipB (s.take ⟨2, 6, 2, 5, 1⟩ now).2.1 = WW s ∧ WW (s.take ⟨2, 6, 2, 5, 1⟩ now).1 = [] ∧ (s.take ⟨2, 6, 2, 5, 1⟩ now).1.ip = 1 ∧ (s.take ⟨2, 6, 2, 5, 1⟩ now).1.last = now := by
  have hw : s.wrong now = 0 := by unfold Ar.wrong; rw [if_neg (by omega), if_neg (by omega)]
  rw [show s.take ⟨2, 6, 2, 5, 1⟩ now = (s.at now).take2 ⟨2, 6, 2, 5, 1⟩ now by unfold Ar.take; rw [if_neg (by rw [hw]; decide)]]
  have hok := h.at (now := now) hn hl
  have e1 : WW (s.at now) = WW s := rfl
  have e2 : (s.at now).ip = 1 := hip
  have e3 : (s.at now).last = now := rfl
  generalize s.at now = s1 at *
  rw [← e1]
  have ha : s1.answer ⟨2, 6, 2, 5, 1⟩ = [] := if_neg (fun h => by have := h.1; simp at this)
  unfold Ar.take2
  rw [if_neg (by rw [e2]; simp), ha]
  cases hlk : lookK 2 s1.m with
  | some e =>
    simp only
    have hen := hok.en _ (lookK_some hlk)
    refine ⟨?_, ?_, e2, e3⟩
    · rw [List.append_nil, ipB_bodies hok 6 e.wait hen.2.2.2.2.2.2.2.2]
      unfold WW; rw [hlk]
    · unfold WW; rw [lookK_putK hok.rise]
  | none =>
    simp only
    have hf := room_facts s1
    rw [if_pos e2.symm]
    have hW : WW s1 = [] := by unfold WW; rw [hlk]
    by_cases hr : s1.room.2 = true
    · rw [if_pos hr]
      refine ⟨by rw [hW]; rfl, ?_, hf.2.1.trans e2, hf.2.2.1.trans e3⟩
      unfold WW; rw [lookK_putK (room_rise hok)]
    · rw [if_neg hr]
      refine ⟨by rw [hW]; rfl, ?_, hf.2.1.trans e2, hf.2.2.1.trans e3⟩
      unfold WW; rw [room_look hlk]
/-- A string's value. -/
def sv (xs : List Int) : Value := .string (strOfNums xs)
theorem elemS : ElemV Try.prog 29 9 (.string ⟨#[]⟩) 16 := ElemV.mk' Try.underlying29 (by kernel_rfl)
/-- What the law keeps: the cache, what was sent, what was got. -/
structure Ord (W w : World) (g b gq : Nat) (s : Ar) (vs vg : Value) (sent got : List (List Int)) : Prop where
  ex : ∃ (S : Nat → Prop) (M : List (Int × Value)), CSt S w g b M s ∧ ¬ S gq ∧ (∀ q, vs.ownBlock = some q → ¬ S q) ∧ (∀ q, vg.ownBlock = some q → ¬ S q)
  kpt : Kpt W w g b
  ng : gq ≠ g
  nb : gq ≠ b
  lq : W.heap.size ≤ gq
  cell : Cell w gq 29 vg
  snt : OwnV w W.heap.size 9 vs (sent.map sv)
  gts : OwnV w W.heap.size 9 vg (got.map sv)
  sg : ∀ q, vs.ownBlock = some q → q ≠ g ∧ q ≠ b
  gg : ∀ q, vg.ownBlock = some q → q ≠ g ∧ q ≠ b
  ap : vs.ownBlock = none ∨ vs.ownBlock ≠ vg.ownBlock
theorem Ord.below {W w w' : World} {g b gq : Nat} {s : Ar} {vs vg : Value} {sent got : List (List Int)} (h : Ord W w g b gq s vs vg sent got) (hb : Below w.heap.size w w') : Ord W w' g b gq s vs vg sent got := by
  obtain ⟨S, M, h1, h2⟩ := h.ex
  exact ⟨⟨S, M, h1.below hb, h2⟩, h.kpt.below hb, h.ng, h.nb, h.lq, (hb.block gq h.cell.lt).trans h.cell, h.snt.below hb, h.gts.below hb, h.sg, h.gg, h.ap⟩
theorem OwnV.kept2 {w w' : World} {base : Nat} {e : TypeId} {v : Value} {vs : List Value} {g b : Nat} (h : OwnV w base e v vs) (hg : Grown2 w w' g b) (hn : ∀ q, v.ownBlock = some q → q ≠ g ∧ q ≠ b) : OwnV w' base e v vs := by
  refine ⟨h.1, ?_⟩
  rcases h.2 with h2 | ⟨q, cap, cur, rfl, hb, hh, hr⟩
  · exact .inl h2
  · have hne := hn q rfl
    exact .inr ⟨q, cap, cur, rfl, hb, (hg.block q (lt_of_block hh) hne.1 hne.2).trans hh, hr⟩
/-- Behind a call of the cache. -/
theorem Ord.done {W w w' : World} {g b gq : Nat} {s : Ar} {vs vg : Value} {sent got : List (List Int)} {S : Nat → Prop} {f : Ar × List (List Int) × Int} {e : Ending}
    (h : Ord W w g b gq s vs vg sent got) (h2 : ¬ S gq ∧ (∀ q, vs.ownBlock = some q → ¬ S q) ∧ (∀ q, vg.ownBlock = some q → ¬ S q)) (hd : Done S g b f w e w') :
    ∃ v, e = .returned (.tuple #[v, .int .i64 f.2.2]) ∧ Ord W w' g b gq f.1 vs vg sent got ∧ FrS (fun _ => True) w' v f.2.1 := by
  obtain ⟨v, S', M', rfl, hc, hS, hF, hG⟩ := hd
  have hlt : ∀ q, q < w.heap.size → ¬ S q → ¬ S' q := fun q hq hn hs => (hS q hs).elim hn (fun h => by omega)
  refine ⟨v, rfl, ⟨⟨S', M', hc, hlt _ h.cell.lt h2.1, fun q hq => hlt q (h.snt.lt q hq).2 (h2.2.1 q hq), fun q hq => hlt q (h.gts.lt q hq).2 (h2.2.2 q hq)⟩, h.kpt.grown hG, h.ng, h.nb, h.lq, (hG.block gq h.cell.lt h.ng h.nb).trans h.cell, h.snt.kept2 hG h.sg, h.gts.kept2 hG h.gg, h.sg, h.gg, h.ap⟩, hF.sub fun _ _ => trivial⟩
theorem row_typed {w : World} {base : Nat} {e : TypeId} {size : Nat} {v : Value} {n q : Nat} {xs : List Value} (h : w.ownsRow base e size v n xs) (hq : v.ownBlock = some q) : ∃ cs, w.heap[q]? = some (.cells cs e (0, 0)) := by
  rcases h.2 with ⟨rfl, _⟩ | ⟨g, cap, cur, rfl, _, hg, _⟩
  · cases hq
  · simp only [Value.ownBlock, Option.some.injEq] at hq
    subst hq
    exact ⟨cur, hg⟩
/-- One block that is neither the cache's nor the law's rows grows. -/
theorem Kpt.grownOne {W w w' : World} {g b : Nat} (h : Kpt W w g b) {q : Option Nat} (hg : w.grownBy w' q) (hq : ∀ x, q = some x → W.heap.size ≤ x) : Kpt W w' g b :=
  ⟨h.bel.grown hg h.bel.size hq, h.g, h.b⟩
theorem CSt.grownOne {S : Nat → Prop} {w w' : World} {g b : Nat} {M : List (Int × Value)} {s : Ar} (h : CSt S w g b M s) {q : Option Nat} (hg : w.grownBy w' q) (hq : ∀ x, q = some x → ¬ S x ∧ x ≠ g ∧ x ≠ b) : CSt S w' g b M s :=
  h.agree ⟨hg.size, fun x hx => hg.block x (h.sl x hx) (fun e => (hq x e.symm).1 hx)⟩ (hg.block g h.lt (fun e => (hq g e.symm).2.1 rfl)) (hg.block b h.map.lt (fun e => (hq b e.symm).2.2 rfl))
/-- One body more is sent: its string is appended. -/
theorem Ord.send {W w w' : World} {g b gq : Nat} {s : Ar} {vs vg v' : Value} {sent got : List (List Int)} {x : List Int} (h : Ord W w g b gq s vs vg sent got)
    (ho : OwnV w' W.heap.size 9 v' (sent.map sv ++ [sv x])) (hg : w.grownBy w' vs.ownBlock) (hat : ∀ q, v'.ownBlock = some q → vs.ownBlock = some q ∨ w.heap.size ≤ q) : Ord W w' g b gq s v' vg (sent ++ [x]) got := by
  obtain ⟨S, M, h1, h2, h3, h4⟩ := h.ex
  have hlo : ∀ q, vs.ownBlock = some q → W.heap.size ≤ q := fun q hq => (h.snt.lt q hq).1
  have hne : vs.ownBlock ≠ some gq := fun e => by
    obtain ⟨cs, hc⟩ := row_typed h.snt e
    have := h.cell
    unfold Cell at this
    rw [this] at hc
    injection hc with hc
    injection hc with _ hc
    exact absurd hc (by decide)
  refine ⟨⟨S, M, h1.grownOne hg (fun q hq => ⟨h3 q hq, h.sg q hq⟩), h2, fun q hq => ?_, h4⟩, h.kpt.grownOne hg hlo, h.ng, h.nb, h.lq, h.cell.kept hg (fun e => hne e.symm), by rw [List.map_append]; exact ho, h.gts.kept hg (by
    rcases h.ap with h5 | h5
    · rw [h5]; cases vg.ownBlock <;> simp
    · exact .inr (Ne.symm h5)), fun q hq => ?_, h.gg, ?_⟩
  · rcases hat q hq with h5 | h5
    · exact h3 q h5
    · exact fun hs => by have := h1.sl q hs; omega
  · rcases hat q hq with h5 | h5
    · exact h.sg q h5
    · exact ⟨by have := h1.lt; omega, by have := h1.map.lt; omega⟩
  · cases e : v'.ownBlock with
    | none => exact .inl rfl
    | some q =>
      refine .inr fun e2 => ?_
      rcases hat q e with h5 | h5
      · rcases h.ap with h6 | h6
        · rw [h6] at h5; cases h5
        · exact h6 (h5.trans e2)
      · have := (h.gts.lt q e2.symm).2; omega
/-- One body more is got: its string is appended, and laid into the cell. -/
theorem Ord.get {W w w' : World} {g b gq : Nat} {s : Ar} {vs vg v' : Value} {sent got : List (List Int)} {x : List Int} (h : Ord W w g b gq s vs vg sent got)
    (ho : OwnV w' W.heap.size 9 v' (got.map sv ++ [sv x])) (hg : w.grownBy w' vg.ownBlock) (hat : ∀ q, v'.ownBlock = some q → vg.ownBlock = some q ∨ w.heap.size ≤ q) : Ord W (w'.setCell ⟨gq, 0, none⟩ v') g b gq s vs v' sent (got ++ [x]) := by
  obtain ⟨S, M, h1, h2, h3, h4⟩ := h.ex
  have hlo : ∀ q, vg.ownBlock = some q → W.heap.size ≤ q := fun q hq => (h.gts.lt q hq).1
  have hne : ∀ {u : Value} {us : List Value} {w0 : World}, OwnV w0 W.heap.size 9 u us → Cell w0 gq 29 vg → u.ownBlock ≠ some gq := fun hu hcl e => by
    obtain ⟨cs, hc⟩ := row_typed hu e
    unfold Cell at hcl
    rw [hcl] at hc
    injection hc with hc
    injection hc with _ hc
    exact absurd hc (by decide)
  have hcl := h.cell.kept hg (fun e => hne h.gts h.cell e.symm)
  have hs := grown_set w' gq 0 v'
  have hsz := hg.size
  have c1 := (h1.grownOne hg (fun q hq => ⟨h4 q hq, h.gg q hq⟩)).grownOne hs (fun q hq => by injection hq with hq; subst hq; exact ⟨h2, h.ng, h.nb⟩)
  have hsn : OwnV w' W.heap.size 9 vs (sent.map sv) := h.snt.kept hg h.ap
  refine ⟨⟨S, M, c1, h2, h3, fun q hq => ?_⟩, (h.kpt.grownOne hg hlo).grownOne hs (fun q hq => by injection hq with hq; subst hq; exact h.lq), h.ng, h.nb, h.lq, hcl.set v', hsn.kept hs (.inr (hne hsn hcl)), by rw [List.map_append]; exact ho.kept hs (.inr (hne ho hcl)), h.sg, fun q hq => ?_, ?_⟩
  · rcases hat q hq with h5 | h5
    · exact h4 q h5
    · exact fun hs => by have := h1.sl q hs; omega
  · rcases hat q hq with h5 | h5
    · exact h.gg q h5
    · exact ⟨by have := h1.lt; omega, by have := h1.map.lt; omega⟩
  · cases e : vs.ownBlock with
    | none => exact .inl rfl
    | some q =>
      refine .inr fun e2 => ?_
      rcases hat q e2.symm with h5 | h5
      · rcases h.ap with h6 | h6
        · rw [h6] at e; cases e
        · exact h6 (e.trans h5.symm)
      · have := (h.snt.lt q e).2; omega
theorem FrS.keptT {T : Nat → Prop} {w w' : World} {v : Value} {L : List (List Int)} {en : Nat} {t : TypeId} {cs : Array Value} {fr : Nat × Nat} (h : FrS T w v L) (hg : w.grownBy w' (some en)) (hen : w.heap[en]? = some (.cells cs t fr)) (ht : t ≠ 5) (ht2 : t ≠ 31) : FrS T w' v L := by
  obtain ⟨vs, h1, h2, h3⟩ := h
  exact ⟨vs, h1.kept hg (row_ne h1 hen ht2), h2, h3.keptT hg hen ht⟩
theorem FrS.keptR {T : Nat → Prop} {w w' : World} {v u : Value} {L : List (List Int)} {base : Nat} {us : List Value} (h : FrS T w v L) (k : OwnV w base 9 u us) (hg : w.grownBy w' u.ownBlock) : FrS T w' v L := by
  cases e : u.ownBlock with
  | none =>
    rw [e] at hg
    exact h.below ⟨hg.os, hg.tape, hg.output, hg.size, fun i hi => hg.block i hi (by simp)⟩
  | some q =>
    rw [e] at hg
    obtain ⟨cs, hc⟩ := row_typed k e
    exact h.keptT hg hc (by decide) (by decide)
end Go.Proofs.Ytebfoigbiekeiaa
