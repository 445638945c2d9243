/-
  Regions that draw, in any order.
-/
import Derived.Test.YtebfoigbiekeiaaEvP6
set_option linter.unusedVariables false
set_option linter.unusedSimpArgs false
namespace Go.Ev
open Go Go.RowKit
/-! ### what comes ahead of what -/
def bfStep (acc : Array Nat) (o : Oper) : Array Nat := acc.push (o.after.foldl (fun s e => if Region.binds .any e then s ||| 2 ^ e.on ||| acc.getD e.on 0 else s) 0)
def pre (ops : Array Oper) (i : Nat) : Nat := (Region.before ops).getD i 0
theorem before_eq (ops : Array Oper) : Region.before ops = ops.toList.foldl bfStep #[] := by
  unfold Region.before
  rw [← Array.foldl_toList]
  rfl
theorem fold_bits (acc : Array Nat) (j : Nat) : ∀ (es : List Edge) (s : Nat), (es.foldl (fun s e => if Region.binds .any e then s ||| 2 ^ e.on ||| acc.getD e.on 0 else s) s).testBit j = true →
    s.testBit j = true ∨ ∃ e ∈ es, Region.binds .any e = true ∧ (j = e.on ∨ (acc.getD e.on 0).testBit j = true)
  | [], s, h => .inl h
  | e :: es, s, h => by
    rw [List.foldl_cons] at h
    rcases fold_bits acc j es _ h with h | ⟨e', he, hb⟩
    · by_cases hbd : Region.binds .any e = true
      · rw [if_pos hbd] at h
        rw [Nat.testBit_or, Nat.testBit_or] at h
        simp only [Bool.or_eq_true] at h
        rcases h with (h | h) | h
        · exact .inl h
        · right
          refine ⟨e, by simp, hbd, .inl ?_⟩
          rw [Nat.testBit_two_pow] at h
          have : e.on = j := by simpa using h
          exact this.symm
        · exact .inr ⟨e, by simp, hbd, .inr h⟩
      · rw [if_neg hbd] at h; exact .inl h
    · exact .inr ⟨e', by simp [he], hb⟩
theorem before_aux : ∀ (os done : List Oper) (acc : Array Nat), acc.size = done.length →
    (∀ (i : Nat) (o : Oper), done[i]? = some o → ∀ j, (acc.getD i 0).testBit j = true → ∃ e ∈ o.after, Region.binds .any e = true ∧ (j = e.on ∨ (acc.getD e.on 0).testBit j = true)) →
    ∀ (i : Nat) (o : Oper), (done ++ os)[i]? = some o → ∀ j, ((os.foldl bfStep acc).getD i 0).testBit j = true → ∃ e ∈ o.after, Region.binds .any e = true ∧ (j = e.on ∨ ((os.foldl bfStep acc).getD e.on 0).testBit j = true)
  | [], done, acc, hs, hp => by simpa using hp
  | o :: os, done, acc, hs, hp => by
    rw [List.foldl_cons]
    have hmono : ∀ k j, (acc.getD k 0).testBit j = true → ((bfStep acc o).getD k 0).testBit j = true := by
      intro k j h
      by_cases hk : k < acc.size
      · have : (bfStep acc o).getD k 0 = acc.getD k 0 := by
          simp only [bfStep, Array.getD_eq_getD_getElem?, Array.getElem?_push]
          rw [if_neg (by omega)]
        rw [this]; exact h
      · have : acc.getD k 0 = 0 := by
          simp [Array.getElem?_eq_none (Nat.le_of_not_lt hk)]
        rw [this] at h; simp at h
    have := before_aux os (done ++ [o]) (bfStep acc o) (by simp [bfStep, hs]) ?_
    · simpa using this
    · intro i o' ho j hj
      by_cases hi : i < done.length
      · have ho' : done[i]? = some o' := by rw [List.getElem?_append_left hi] at ho; exact ho
        have hj' : (acc.getD i 0).testBit j = true := by
          have : (bfStep acc o).getD i 0 = acc.getD i 0 := by
            simp only [bfStep, Array.getD_eq_getD_getElem?, Array.getElem?_push]
            rw [if_neg (by omega)]
          rw [this] at hj; exact hj
        obtain ⟨e, he, hb, hh⟩ := hp i o' ho' j hj'
        exact ⟨e, he, hb, hh.imp id (hmono _ _)⟩
      · have hi2 : i = done.length := by
          have := (List.getElem?_eq_some_iff.1 ho).1
          simp at this; omega
        subst hi2
        simp at ho
        subst ho
        have hval : (bfStep acc o).getD done.length 0 = o.after.foldl (fun s e => if Region.binds .any e then s ||| 2 ^ e.on ||| acc.getD e.on 0 else s) 0 := by
          simp only [bfStep, Array.getD_eq_getD_getElem?, Array.getElem?_push]
          rw [if_pos hs.symm]; rfl
        rw [hval, ← Array.foldl_toList] at hj
        rcases fold_bits acc j _ 0 hj with h | ⟨e, he, hb, hh⟩
        · simp at h
        · exact ⟨e, by simpa using he, hb, hh.imp id (hmono _ _)⟩
theorem before_bit {ops : Array Oper} {i : Nat} {o : Oper} (ho : ops[i]? = some o) {j : Nat} (h : (pre ops i).testBit j = true) : ∃ e ∈ o.after, Region.binds .any e = true ∧ (j = e.on ∨ (pre ops e.on).testBit j = true) := by
  unfold pre at *
  rw [before_eq] at *
  exact before_aux ops.toList [] #[] rfl (fun i o h => by simp at h) i o (by simpa using ho) j h
theorem edgesBack_spec {ops : Array Oper} (h : edgesBack ops.toList.zipIdx = true) {i : Nat} {o : Oper} (ho : ops[i]? = some o) {e : Edge} (he : e ∈ o.after) (hb : Region.binds .any e = true) : e.on < i := by
  unfold edgesBack at h
  rw [List.all_eq_true] at h
  have hm : (o, i) ∈ ops.toList.zipIdx := by
    rw [List.mem_zipIdx_iff_getElem?]
    simpa using ho
  have := h _ hm
  rw [Array.all_eq_true_iff_forall_mem] at this
  have := this e he
  simpa [hb] using this
theorem pre_lt {ops : Array Oper} (h : edgesBack ops.toList.zipIdx = true) : ∀ (i : Nat) {j : Nat}, i < ops.size → (pre ops i).testBit j = true → j < i := by
  intro i
  induction i using Nat.strongRecOn with
  | _ i ih =>
    intro j hi hj
    have ho : ops[i]? = some ops[i] := by simp [hi]
    obtain ⟨e, he, hb, hh⟩ := before_bit ho hj
    have hlt := edgesBack_spec h ho he hb
    rcases hh with rfl | hh
    · exact hlt
    · have := ih e.on hlt (by omega) hh
      omega
/-- a set of operations that holds with each what comes ahead of it -/
def Closed (ops : Array Oper) (L : Nat → Bool) : Prop := ∀ i, L i = true → ∀ j, (pre ops i).testBit j = true → L j = true
def addL (L : Nat → Bool) (i : Nat) : Nat → Bool := fun k => L k || k == i
theorem closed_bits {ops : Array Oper} {L : Nat → Bool} (hc : Closed ops L) {i : Nat} {o : Oper} (ho : ops[i]? = some o) (hr : ∀ e ∈ o.after, Region.binds .any e = true → L e.on = true) : ∀ j, (pre ops i).testBit j = true → L j = true := by
  intro j hj
  obtain ⟨e, he, hb, hh⟩ := before_bit ho hj
  rcases hh with rfl | hh
  · exact hr e he hb
  · exact hc e.on (hr e he hb) j hh
theorem closed_add {ops : Array Oper} {L : Nat → Bool} (hc : Closed ops L) {i : Nat} (hb : ∀ j, (pre ops i).testBit j = true → L j = true) : Closed ops (addL L i) := by
  intro k hk j hj
  simp only [addL, Bool.or_eq_true, beq_iff_eq] at hk ⊢
  rcases hk with hk | rfl
  · exact .inl (hc k hk j hj)
  · exact .inl (hb j hj)
/-! ### the chain -/
theorem mem_chainFrom : ∀ {l : List (Oper × AOp)} {k c : Nat}, c ∈ chainFrom l k ↔ ∃ j x, c = k + j ∧ l[j]? = some x ∧ x.2.cls = 2
  | [], k, c => by simp [chainFrom]
  | x :: l, k, c => by
    simp only [chainFrom]
    split
    · rename_i hx
      rw [List.mem_cons, mem_chainFrom]
      constructor
      · rintro (rfl | ⟨j, y, rfl, hy, hc⟩)
        · exact ⟨0, x, rfl, rfl, hx⟩
        · exact ⟨j + 1, y, by omega, by simpa using hy, hc⟩
      · rintro ⟨j, y, rfl, hy, hc⟩
        cases j with
        | zero => exact .inl rfl
        | succ j => exact .inr ⟨j, y, by omega, by simpa using hy, hc⟩
    · rename_i hx
      rw [mem_chainFrom]
      constructor
      · rintro ⟨j, y, rfl, hy, hc⟩
        exact ⟨j + 1, y, by omega, by simpa using hy, hc⟩
      · rintro ⟨j, y, rfl, hy, hc⟩
        cases j with
        | zero => simp at hy; subst hy; exact absurd hc hx
        | succ j => exact ⟨j, y, by omega, by simpa using hy, hc⟩
theorem chainFrom_sorted : ∀ (l : List (Oper × AOp)) (k : Nat), (chainFrom l k).Pairwise (· < ·)
  | [], k => by simp [chainFrom]
  | x :: l, k => by
    simp only [chainFrom]
    split
    · refine List.Pairwise.cons (fun c hc => ?_) (chainFrom_sorted l (k + 1))
      obtain ⟨j, y, rfl, _⟩ := mem_chainFrom.1 hc
      omega
    · exact chainFrom_sorted l (k + 1)
theorem chain_prev {ops : Array Oper} {L : Nat → Bool} (hc : Closed ops L) : ∀ {r : List Nat} {x c : Nat}, chainOk (Region.before ops) (x :: r) = true → c ∈ r → L c = true → L x = true
  | [], x, c, _, h, _ => by simp at h
  | b :: r, x, c, hk, h, hL => by
    simp only [chainOk, Bool.and_eq_true] at hk
    have hb : L b = true := by
      rcases List.mem_cons.1 h with rfl | h
      · exact hL
      · exact chain_prev hc hk.2 h hL
    exact hc b hb x hk.1
theorem chain_down {ops : Array Oper} {L : Nat → Bool} (hc : Closed ops L) : ∀ {l : List Nat} {c c' : Nat}, chainOk (Region.before ops) l = true → l.Pairwise (· < ·) → c ∈ l → c' ∈ l → c < c' → L c' = true → L c = true
  | [], c, c', _, _, h, _, _, _ => by simp at h
  | x :: r, c, c', hk, hp, h, h', hlt, hL => by
    rw [List.pairwise_cons] at hp
    have hk2 : chainOk (Region.before ops) r = true := by
      cases r with
      | nil => rfl
      | cons b r => simp only [chainOk, Bool.and_eq_true] at hk; exact hk.2
    rcases List.mem_cons.1 h with e1 | h1
    · rcases List.mem_cons.1 h' with e2 | h2
      · omega
      · rw [e1]; exact chain_prev hc hk h2 hL
    · rcases List.mem_cons.1 h' with e2 | h2
      · have := hp.1 c h1; omega
      · exact chain_down hc hk2 hp.2 h1 h2 hlt hL
def cnt (chain : List Nat) (p : Nat → Bool) : Nat := (chain.filter p).length
theorem cnt_mono {chain : List Nat} {p q : Nat → Bool} (h : ∀ c ∈ chain, p c = true → q c = true) : cnt chain p ≤ cnt chain q := by
  unfold cnt
  rw [← List.countP_eq_length_filter, ← List.countP_eq_length_filter]
  exact List.countP_mono_left h
theorem cnt_congr {chain : List Nat} {p q : Nat → Bool} (h : ∀ c ∈ chain, p c = q c) : cnt chain p = cnt chain q := by
  unfold cnt; rw [List.filter_congr h]
theorem cnt_succ {chain : List Nat} (hp : chain.Pairwise (· < ·)) (i : Nat) : cnt chain (fun c => decide (c < i + 1)) = cnt chain (fun c => decide (c < i)) + if i ∈ chain then 1 else 0 := by
  unfold cnt
  induction chain with
  | nil => simp
  | cons x r ih =>
    rw [List.pairwise_cons] at hp
    have ih := ih hp.2
    by_cases hx : x = i
    · subst hx
      have hnot : x ∉ r := fun h => by have := hp.1 x h; omega
      rw [if_neg hnot] at ih
      simp [ih]
    · have hm : (i ∈ x :: r) ↔ i ∈ r := by simp [Ne.symm hx]
      by_cases hlt : x < i
      · have h1 : x < i + 1 := by omega
        simp only [List.filter_cons, hlt, h1, decide_true, if_true, List.length_cons, ih]
        by_cases hi : i ∈ r
        · simp [hi, hm.2 hi]
        · have : ¬ i ∈ x :: r := fun h => hi (hm.1 h)
          simp [hi, this]
      · have h1 : ¬ x < i + 1 := by omega
        simp only [List.filter_cons, hlt, h1, decide_false, Bool.false_eq_true, if_false, ih]
        by_cases hi : i ∈ r
        · simp [hi, hm.2 hi]
        · have : ¬ i ∈ x :: r := fun h => hi (hm.1 h)
          simp [hi, this]
end Go.Ev
namespace Go.Ev
open Go Go.RowKit
/-! ### the run in the text's order -/
structure Trc (E : Env) (ih : Run) (l : List AOper) (D : Nat → Dr) (val : Nat → AVal) : Prop where
  step : ∀ (i : Nat) (x : AOper), l[i]? = some x → ∃ d, drawDo E ih i x (D i) = some (val i, d) ∧ D (i + 1) = { d with tm := putD x.dst (val i) d.tm }
theorem drawDo_tm {E : Env} {ih : Run} {i : Nat} {x : AOper} {d d' : Dr} {v : AVal} (h : drawDo E ih i x d = some (v, d')) : d'.tm = d.tm := by
  unfold drawDo at h
  split at h
  · split at h
    · split at h
      · cases h; rfl
      · simp at h
    · split at h
      · cases h; rfl
      · simp at h
    · split at h
      · split at h
        · cases h; rfl
        · simp at h
      · split at h
        · cases h; rfl
        · simp at h
    · split at h
      · cases h; rfl
      · simp at h
  · cases h; rfl
  · simp at h
theorem drawRun_trc {E : Env} {ih : Run} : ∀ {l : List AOper} {i : Nat} {d dn : Dr}, drawRun E ih l i d = some dn →
    ∃ (D : Nat → Dr) (val : Nat → AVal), D 0 = d ∧ D l.length = dn ∧ ∀ (j : Nat) (x : AOper), l[j]? = some x → ∃ d', drawDo E ih (i + j) x (D j) = some (val j, d') ∧ D (j + 1) = { d' with tm := putD x.dst (val j) d'.tm }
  | [], i, d, dn, h => by
    simp only [drawRun] at h; cases h
    exact ⟨fun _ => d, fun _ => .undef, rfl, rfl, fun j x hx => by simp at hx⟩
  | x :: l, i, d, dn, h => by
    simp only [drawRun] at h
    split at h
    · rename_i d1 h1
      unfold drawStep at h1
      split at h1
      · rename_i v d2 h2
        cases h1
        obtain ⟨D, val, e0, en, hs⟩ := drawRun_trc h
        refine ⟨fun k => match k with | 0 => d | k + 1 => D k, fun k => match k with | 0 => v | k + 1 => val k, rfl, en, ?_⟩
        intro j y hy
        cases j with
        | zero => simp at hy; subst hy; exact ⟨d2, h2, e0⟩
        | succ j =>
          obtain ⟨d', q1, q2⟩ := hs j y (by simpa using hy)
          refine ⟨d', ?_, q2⟩
          rw [show i + (j + 1) = i + 1 + j by omega]; exact q1
      · simp at h1
    · simp at h
/-- the temporaries behind the operations of L -/
def tmL (l : List AOper) (val : Nat → AVal) (t : PT AVal) (L : Nat → Bool) : Nat → PT AVal
  | 0 => t
  | k + 1 => match l[k]? with
    | some x => if L k then putD x.dst (val k) (tmL l val t L k) else tmL l val t L k
    | none => tmL l val t L k
section
variable {E : Env} {ih : Run} {l : List AOper} {D : Nat → Dr} {val : Nat → AVal}
theorem Trc.tm (k : Trc E ih l D val) : ∀ i, i ≤ l.length → (D i).tm = tmL l val (D 0).tm (fun _ => true) i
  | 0, _ => rfl
  | i + 1, hi => by
    have hlt : i < l.length := by omega
    have hx : l[i]? = some l[i] := by simp [hlt]
    obtain ⟨d, h1, h2⟩ := k.step i _ hx
    rw [h2]
    simp only [tmL, hx, if_true]
    rw [drawDo_tm h1, k.tm i (by omega)]
theorem putD_ne {d : Option Pos} {v : AVal} {t : PT AVal} {p : Pos} (h : d ≠ some p) : (putD d v t).get p = t.get p := by
  cases d with
  | none => rfl
  | some q => exact PT.get_set_ne _ _ _ _ (fun e => h (by rw [e]))
theorem putD_same {v : AVal} {t : PT AVal} {p : Pos} : (putD (some p) v t).get p = some v := PT.get_set _ _ _
/-- of two operations of which one sets what the other names the earlier is ahead of the later -/
def Ord (ops : Array Oper) (l : List AOper) : Prop := ∀ (i j : Nat) (x y : AOper), i < j → l[i]? = some x → l[j]? = some y → (pre ops j).testBit i = true ∨ ((∀ d, x.dst = some d → d ∉ y.names) ∧ (∀ d, y.dst = some d → d ∉ x.names))
theorem orderedAll_spec {ops : Array Oper} {l : List AOper} (hpre : ∀ (j : Nat) (y : AOper), l[j]? = some y → y.pre = pre ops j) (h : orderedAll l.zipIdx = true) : Ord ops l := by
  intro i j x y hij hx hy
  unfold orderedAll at h
  rw [List.all_eq_true] at h
  have h1 := h (y, j) (by rw [List.mem_zipIdx_iff_getElem?]; exact hy)
  dsimp only at h1
  rw [List.all_eq_true] at h1
  have h2 := h1 (x, i) (by rw [List.mem_zipIdx_iff_getElem?]; exact hx)
  dsimp only at h2
  simp only [Bool.or_eq_true, decide_eq_true_eq] at h2
  rcases h2 with h2 | h2
  · omega
  · unfold orderedAt at h2
    simp only [Bool.or_eq_true, Bool.and_eq_true] at h2
    rw [hpre j y hy] at h2
    rcases h2 with h2 | ⟨h2, h3⟩
    · exact .inl h2
    · right
      refine ⟨fun d hd => ?_, fun d hd => ?_⟩
      · rw [hd] at h2; simpa using h2
      · rw [hd] at h3; simpa using h3
theorem dst_mem {x : AOper} {d : Pos} (h : x.dst = some d) : d ∈ x.names := by
  unfold AOper.names; rw [h]; simp
variable {ops : Array Oper} {t : PT AVal} {L : Nat → Bool} {i : Nat} {x : AOper}
/-- An operation that may come up finds its operands as in the text's order. -/
theorem tmL_agree (ho : Ord ops l) (hc : Closed ops L) (hx : l[i]? = some x) (hi : L i = false) (hb : ∀ j, (pre ops i).testBit j = true → L j = true) {p : Pos} (hp : p ∈ x.names) :
    (tmL l val t L l.length).get p = (tmL l val t (fun _ => true) i).get p := by
  have c1 : ∀ k, k ≤ i → (tmL l val t L k).get p = (tmL l val t (fun _ => true) k).get p := by
    intro k
    induction k with
    | zero => intro _; rfl
    | succ k ihk =>
      intro hk
      have ihk := ihk (by omega)
      simp only [tmL]
      cases hy : l[k]? with
      | none => simpa using ihk
      | some y =>
        simp only [if_true]
        by_cases hd : y.dst = some p
        · have hLk : L k = true := by
            rcases ho k i y x (by omega) hy hx with h | ⟨h, _⟩
            · exact hb k h
            · exact absurd hp (h p hd)
          rw [hLk, if_pos rfl, hd, putD_same, putD_same]
        · rw [putD_ne hd]
          split
          · rw [putD_ne hd]; exact ihk
          · exact ihk
  have c2 : ∀ k, i ≤ k → (tmL l val t L k).get p = (tmL l val t L i).get p := by
    intro k hk
    induction k with
    | zero => have : i = 0 := by omega
              subst this; rfl
    | succ k ihk =>
      by_cases hik : i = k + 1
      · rw [← hik]
      · have ihk := ihk (by omega)
        simp only [tmL]
        cases hy : l[k]? with
        | none => simpa using ihk
        | some y =>
          dsimp only
          split
          · rename_i hLk
            have hne : k ≠ i := fun h => by subst h; rw [hi] at hLk; cases hLk
            have hd : y.dst ≠ some p := by
              intro hd
              rcases ho i k x y (by omega) hx hy with h | ⟨_, h⟩
              · have := hc k hLk i h; rw [hi] at this; cases this
              · exact h p hd hp
            rw [putD_ne hd]; exact ihk
          · exact ihk
  have hil : i ≤ l.length := Nat.le_of_lt (List.getElem?_eq_some_iff.1 hx).1
  rw [c2 _ hil, c1 i (Nat.le_refl _)]
/-- Behind it its own temporary is set, and no other. -/
theorem tmL_add (ho : Ord ops l) (hc : Closed ops L) (hx : l[i]? = some x) (hi : L i = false) (p : Pos) :
    (tmL l val t (addL L i) l.length).get p = (putD x.dst (val i) (tmL l val t L l.length)).get p := by
  have c1 : ∀ k, k ≤ i → tmL l val t (addL L i) k = tmL l val t L k := by
    intro k
    induction k with
    | zero => intro _; rfl
    | succ k ihk =>
      intro hk
      have ihk := ihk (by omega)
      have : addL L i k = L k := by
        have : (k == i) = false := by simp; omega
        simp [addL, this]
      simp only [tmL, this, ihk]
  have c2 : ∀ k, i + 1 ≤ k → (tmL l val t (addL L i) k).get p = (putD x.dst (val i) (tmL l val t L k)).get p := by
    intro k hk
    induction k with
    | zero => omega
    | succ k ihk =>
      by_cases hik : i = k
      · subst hik
        simp only [tmL, hx, hi, Bool.false_eq_true, if_false]
        have : addL L i i = true := by simp [addL]
        rw [this, if_pos rfl, c1 i (Nat.le_refl _)]
      · have ihk := ihk (by omega)
        have hadd : addL L i k = L k := by
          have : (k == i) = false := by simp; omega
          simp [addL, this]
        simp only [tmL, hadd]
        cases hy : l[k]? with
        | none => simpa using ihk
        | some y =>
          dsimp only
          split
          · rename_i hLk
            have hd : ∀ q, x.dst = some q → y.dst ≠ some q := by
              intro q hq hyq
              rcases ho i k x y (by omega) hx hy with h | ⟨h, _⟩
              · have := hc k hLk i h; rw [hi] at this; cases this
              · exact h q hq (dst_mem hyq)
            by_cases hyp : y.dst = some p
            · have hxp : x.dst ≠ some p := fun h => hd p h hyp
              rw [hyp, putD_same, putD_ne hxp, putD_same]
            · rw [putD_ne hyp]
              by_cases hxp : x.dst = some p
              · rw [hxp, putD_same]; rw [hxp, putD_same] at ihk; exact ihk
              · rw [putD_ne hxp, putD_ne hyp]; rw [putD_ne hxp] at ihk; exact ihk
          · exact ihk
  have hil : i < l.length := (List.getElem?_eq_some_iff.1 hx).1
  exact c2 _ hil
end
end Go.Ev
namespace Go.Ev
open Go Go.RowKit
theorem cls_le (op : AOp) : op.cls ≤ 3 := by cases op <;> simp [AOp.cls]
/-- what one step of the run in the text's order was -/
inductive Kind (E : Env) (ih : Run) (i : Nat) (x : AOper) (d d' : Dr) (v : AVal) : Prop
  | skip (hw : wantA x.guard d.tm = some false) (hv : v = .undef) (h : d'.h = d.h) (rid : d'.rid = if x.op.cls = 3 then d.rid.succ else d.rid) (pend : d'.pend = d.pend) (hs : d'.hs = if x.op.cls = 2 then d.h :: d.hs else d.hs) (fs : d'.fs = d.fs)
  | fresh (hw : wantA x.guard d.tm = some true) (hc : x.op.cls = 3) (cs : List AVal) (fr : Fr) (hf : freshA x.op d.tm = some (cs, fr)) (hv : v = fr.val d.rid) (h : d'.h = d.h) (rid : d'.rid = d.rid.succ) (pend : d'.pend = ⟨i, d.rid, cs⟩ :: d.pend) (hs : d'.hs = d.hs) (fs : d'.fs = d.fs)
  | act (hw : wantA x.guard d.tm = some true) (hc : x.op.cls = 2) (ho : opA E ih x.op d.tm { d.h with t := plus d.h.t (needs x.pre d.pend) } = some (v, d'.h)) (rid : d'.rid = d.rid) (pend : d'.pend = rests x.pre d.pend) (hs : d'.hs = d'.h :: d.hs) (fs : d'.fs = d.fs)
  | read1 (hw : wantA x.guard d.tm = some true) (hc : x.op.cls = 1) (hlh : x.lo = x.hi) (h1 : Hp) (ho : evOp E.bnds x.op d.tm { d.h with t := plus d.h.t (needs x.pre d.pend) } = some (v, h1)) (h : d'.h = d.h) (rid : d'.rid = d.rid) (pend : d'.pend = d.pend) (hs : d'.hs = d.hs) (fs : d'.fs = d.fs)
  | read (hw : wantA x.guard d.tm = some true) (hc : x.op.cls = 1) (hlh : x.lo ≠ x.hi) (h1 : Hp) (ho : evOp E.bnds x.op d.tm d.h = some (v, h1)) (h : d'.h = d.h) (rid : d'.rid = d.rid) (pend : d'.pend = d.pend) (hs : d'.hs = d.hs) (fs : d'.fs = { lo := x.lo, hi := x.hi, v, op := x.op, tm := d.tm } :: d.fs)
  | idle (hw : wantA x.guard d.tm = some true) (hc : x.op.cls = 0) (h1 : Hp) (ho : evOp E.bnds x.op d.tm d.h = some (v, h1)) (h : d'.h = d.h) (rid : d'.rid = d.rid) (pend : d'.pend = d.pend) (hs : d'.hs = d.hs) (fs : d'.fs = d.fs)
theorem drawDo_kind {E : Env} {ih : Run} {i : Nat} {x : AOper} {d d' : Dr} {v : AVal} (e : drawDo E ih i x d = some (v, d')) (t' : PT AVal) : Kind E ih i x d { d' with tm := t' } v := by
  unfold drawDo at e
  split at e
  · rename_i hw
    split at e
    · rename_i hc
      split at e
      · rename_i cs fr hf
        cases e
        exact .fresh hw hc cs fr hf rfl rfl rfl rfl rfl rfl
      · simp at e
    · rename_i hc
      split at e
      · rename_i v' h1 ho
        cases e
        exact .act hw hc ho rfl rfl rfl rfl
      · simp at e
    · rename_i hc
      split at e
      · rename_i hlh
        split at e
        · rename_i v' h1 ho
          cases e
          exact .read1 hw hc hlh h1 ho rfl rfl rfl rfl rfl
        · simp at e
      · rename_i hlh
        split at e
        · rename_i v' h1 ho
          cases e
          exact .read hw hc hlh h1 ho rfl rfl rfl rfl rfl
        · simp at e
    · rename_i h3 h2 h1
      split at e
      · rename_i v' h1' ho
        cases e
        have : x.op.cls = 0 := by
          have := cls_le x.op
          have a : x.op.cls ≠ 1 := h1
          have b : x.op.cls ≠ 2 := h2
          have c : x.op.cls ≠ 3 := h3
          omega
        exact .idle hw this h1' ho rfl rfl rfl rfl rfl
      · simp at e
  · rename_i hw
    cases e
    exact .skip hw rfl rfl rfl rfl rfl rfl
  · simp at e
section
variable {E : Env} {ih : Run} {l : List AOper} {D : Nat → Dr} {val : Nat → AVal}
theorem Trc.kind (k : Trc E ih l D val) {i : Nat} {x : AOper} (hx : l[i]? = some x) : Kind E ih i x (D i) (D (i + 1)) (val i) := by
  obtain ⟨d, h1, h2⟩ := k.step i x hx
  rw [h2]
  exact drawDo_kind h1 _
/-- the new block of operation k -/
def apAt (l : List AOper) (D : Nat → Dr) (k : Nat) : Option Pd :=
  match l[k]? with
  | some x => if x.op.cls = 3 ∧ wantA x.guard (D k).tm = some true then (freshA x.op (D k).tm).map fun p => ⟨k, (D k).rid, p.1⟩ else none
  | none => none
def isCW (l : List AOper) (D : Nat → Dr) (c : Nat) : Prop := ∃ x, l[c]? = some x ∧ x.op.cls = 2 ∧ wantA x.guard (D c).tm = some true
theorem apAt_ix {k : Nat} {p : Pd} (h : apAt l D k = some p) : p.ix = k ∧ p.id = (D k).rid ∧ k < l.length := by
  unfold apAt at h
  split at h
  · rename_i x hx
    split at h
    · simp only [Option.map_eq_some_iff] at h
      obtain ⟨q, _, rfl⟩ := h
      exact ⟨rfl, rfl, (List.getElem?_eq_some_iff.1 hx).1⟩
    · simp at h
  · simp at h
theorem Trc.rid_le (k : Trc E ih l D val) : ∀ {i j : Nat}, i ≤ j → j ≤ l.length → (D i).rid.toNat ≤ (D j).rid.toNat := by
  intro i j hij hj
  induction j with
  | zero => have : i = 0 := by omega
            subst this; exact Nat.le_refl _
  | succ j ihj =>
    by_cases h : i = j + 1
    · subst h; exact Nat.le_refl _
    · have h1 := ihj (by omega) (by omega)
      have hx : l[j]? = some l[j] := by simp [show j < l.length by omega]
      refine Nat.le_trans h1 ?_
      have hk := k.kind hx
      cases hk with
      | skip _ _ _ rid => rw [rid]; split <;> (try rw [Pos.toNat_succ]) <;> omega
      | fresh _ _ _ _ _ _ _ rid => rw [rid, Pos.toNat_succ]; omega
      | act _ _ _ rid => rw [rid]; exact Nat.le_refl _
      | read1 _ _ _ _ _ _ rid => rw [rid]; exact Nat.le_refl _
      | read _ _ _ _ _ _ rid => rw [rid]; exact Nat.le_refl _
      | idle _ _ _ _ _ rid => rw [rid]; exact Nat.le_refl _
theorem Trc.rid_lt (k : Trc E ih l D val) {i j : Nat} {p : Pd} (hp : apAt l D i = some p) (hij : i < j) (hj : j ≤ l.length) : p.id.toNat < (D j).rid.toNat := by
  obtain ⟨e1, e2, e3⟩ := apAt_ix hp
  have hx : l[i]? = some l[i] := by simp [e3]
  have hk := k.kind hx
  have h3 : (l[i]).op.cls = 3 := by
    unfold apAt at hp
    rw [hx] at hp
    dsimp only at hp
    split at hp
    · rename_i h; exact h.1
    · simp at hp
  have hs : (D (i + 1)).rid = (D i).rid.succ := by
    cases hk with
    | skip _ _ _ rid => rw [rid, if_pos h3]
    | fresh _ _ _ _ _ _ _ rid => exact rid
    | act _ hc => omega
    | read1 _ hc => omega
    | read _ hc => omega
    | idle _ hc => omega
  have := k.rid_le (i := i + 1) (j := j) hij hj
  rw [hs, Pos.toNat_succ] at this
  rw [e2]; omega
theorem Trc.ap_inj (k : Trc E ih l D val) {i j : Nat} {p q : Pd} (hp : apAt l D i = some p) (hq : apAt l D j = some q) (h : p.id = q.id) : i = j := by
  obtain ⟨a1, a2, a3⟩ := apAt_ix hp
  obtain ⟨b1, b2, b3⟩ := apAt_ix hq
  rcases Nat.lt_trichotomy i j with hl | hl | hl
  · have := k.rid_lt hp hl (by omega)
    rw [h, b2] at this; omega
  · exact hl
  · have := k.rid_lt hq hl (by omega)
    rw [← h, a2] at this; omega
theorem keep_snoc : ∀ (l : List AOper) (x : AOper) (p : Pos), keep (l ++ [x]) p = if x.op.cls = 3 then (keep l p).succ else keep l p
  | [], x, p => rfl
  | y :: l, x, p => by simp only [List.cons_append, keep]; rw [keep_snoc l x]
theorem Trc.rid_keep (k : Trc E ih l D val) : ∀ i, i ≤ l.length → (D i).rid = keep (l.take i) (D 0).rid
  | 0, _ => rfl
  | i + 1, hi => by
    have hlt : i < l.length := by omega
    have hx : l[i]? = some l[i] := by simp [hlt]
    have ihk := k.rid_keep i (by omega)
    rw [List.take_succ_eq_append_getElem hlt, keep_snoc, ← ihk]
    have hk := k.kind hx
    cases hk with
    | skip _ _ _ rid => exact rid
    | fresh _ hc _ _ _ _ _ rid => rw [rid, if_pos hc]
    | act _ hc _ rid => rw [rid, if_neg (by omega)]
    | read1 _ hc _ _ _ _ rid => rw [rid, if_neg (by omega)]
    | read _ hc _ _ _ _ rid => rw [rid, if_neg (by omega)]
    | idle _ hc _ _ _ rid => rw [rid, if_neg (by omega)]
/-- what the chain has not met yet -/
theorem Trc.pend (k : Trc E ih l D val) {ops : Array Oper} (hpre : ∀ (j : Nat) (y : AOper), l[j]? = some y → y.pre = pre ops j) (hlen : l.length = ops.size) (hb : edgesBack ops.toList.zipIdx = true) (h0 : (D 0).pend = []) : ∀ i, i ≤ l.length → ∀ p, p ∈ (D i).pend ↔ ∃ j, j < i ∧ apAt l D j = some p ∧ ∀ c, c < i → isCW l D c → (pre ops c).testBit j = false
  | 0, _, p => by rw [h0]; simp
  | i + 1, hi, p => by
    have hlt : i < l.length := by omega
    have hx : l[i]? = some l[i] := by simp [hlt]
    have ihk := k.pend hpre hlen hb h0 i (by omega) p
    have hk := k.kind hx
    -- where operation i is no acting one, and makes no block
    have plain : (D (i + 1)).pend = (D i).pend → apAt l D i = none → ¬ isCW l D i → (p ∈ (D (i + 1)).pend ↔ ∃ j, j < i + 1 ∧ apAt l D j = some p ∧ ∀ c, c < i + 1 → isCW l D c → (pre ops c).testBit j = false) := by
      intro h1 h2 h3
      rw [h1, ihk]
      constructor
      · rintro ⟨j, hj, hp, hc⟩
        refine ⟨j, by omega, hp, fun c hc' hw => ?_⟩
        by_cases e : c = i
        · subst e; exact absurd hw h3
        · exact hc c (by omega) hw
      · rintro ⟨j, hj, hp, hc⟩
        have : j ≠ i := fun e => by subst e; rw [h2] at hp; cases hp
        exact ⟨j, by omega, hp, fun c hc' hw => hc c (by omega) hw⟩
    have noAp : ¬ ((l[i]).op.cls = 3 ∧ wantA (l[i]).guard (D i).tm = some true) → apAt l D i = none := by
      intro h; unfold apAt; rw [hx]; dsimp only; rw [if_neg h]
    have noCW : ¬ ((l[i]).op.cls = 2 ∧ wantA (l[i]).guard (D i).tm = some true) → ¬ isCW l D i := by
      rintro h ⟨y, hy, h1, h2⟩
      rw [hx] at hy; cases hy
      exact h ⟨h1, h2⟩
    cases hk with
    | skip hw _ _ _ pend => exact plain pend (noAp (fun h => by rw [hw] at h; simp at h)) (noCW (fun h => by rw [hw] at h; simp at h))
    | read1 _ hc _ _ _ _ _ pend => exact plain pend (noAp (fun h => by omega)) (noCW (fun h => by omega))
    | read _ hc _ _ _ _ _ pend => exact plain pend (noAp (fun h => by omega)) (noCW (fun h => by omega))
    | idle _ hc _ _ _ _ pend => exact plain pend (noAp (fun h => by omega)) (noCW (fun h => by omega))
    | fresh hw hc cs fr hf _ _ _ pend =>
      have hap : apAt l D i = some ⟨i, (D i).rid, cs⟩ := by
        unfold apAt; rw [hx]; dsimp only; rw [if_pos ⟨hc, hw⟩, hf]; rfl
      have hcw := noCW (fun h => by omega)
      rw [pend, List.mem_cons, ihk]
      constructor
      · rintro (rfl | ⟨j, hj, hp, hh⟩)
        · refine ⟨i, by omega, hap, fun c hc' hw' => ?_⟩
          have hne : c ≠ i := fun e => by subst e; exact hcw hw'
          cases hbit : (pre ops c).testBit i with
          | false => rfl
          | true => have := pre_lt hb c (by omega) hbit; omega
        · refine ⟨j, by omega, hp, fun c hc' hw' => ?_⟩
          have hne : c ≠ i := fun e => by subst e; exact hcw hw'
          exact hh c (by omega) hw'
      · rintro ⟨j, hj, hp, hh⟩
        by_cases e : j = i
        · subst e; rw [hap] at hp; cases hp; exact .inl rfl
        · exact .inr ⟨j, by omega, hp, fun c hc' hw' => hh c (by omega) hw'⟩
    | act hw hc _ _ pend =>
      have hcw : isCW l D i := ⟨_, hx, hc, hw⟩
      have hap := noAp (fun h => by omega)
      rw [pend]
      unfold rests
      rw [List.mem_filter, ihk, hpre i _ hx]
      constructor
      · rintro ⟨⟨j, hj, hp, hh⟩, hbit⟩
        refine ⟨j, by omega, hp, fun c hc' hw' => ?_⟩
        by_cases e : c = i
        · subst e
          rw [(apAt_ix hp).1] at hbit
          simpa using hbit
        · exact hh c (by omega) hw'
      · rintro ⟨j, hj, hp, hh⟩
        have hne : j ≠ i := fun e => by subst e; rw [hap] at hp; cases hp
        refine ⟨⟨j, by omega, hp, fun c hc' hw' => hh c (by omega) hw'⟩, ?_⟩
        rw [(apAt_ix hp).1, hh i (by omega) hcw]; rfl
/-- the heaps behind the chain's operations -/
theorem Trc.hs (k : Trc E ih l D val) {chain : List Nat} (hp : chain.Pairwise (· < ·)) (hm : ∀ c, c ∈ chain ↔ ∃ x, l[c]? = some x ∧ x.op.cls = 2) (h0 : (D 0).hs = [(D 0).h]) : ∀ i, i ≤ l.length → ∃ r, (D i).hs = (D i).h :: r ∧ r.length = cnt chain (fun c => decide (c < i))
  | 0, _ => ⟨[], h0, by unfold cnt; rw [List.filter_eq_nil_iff.2 (by intro c _; simp)]; rfl⟩
  | i + 1, hi => by
    have hlt : i < l.length := by omega
    have hx : l[i]? = some l[i] := by simp [hlt]
    obtain ⟨r, h1, h2⟩ := k.hs hp hm h0 i (by omega)
    have hk := k.kind hx
    rw [cnt_succ hp]
    have inn : (l[i]).op.cls = 2 → i ∈ chain := fun h => (hm i).2 ⟨_, hx, h⟩
    have out : (l[i]).op.cls ≠ 2 → ¬ i ∈ chain := fun h hh => by
      obtain ⟨y, hy, hc⟩ := (hm i).1 hh
      rw [hx] at hy; cases hy; exact h hc
    have plain : (l[i]).op.cls ≠ 2 → (D (i + 1)).hs = (D i).hs → (D (i + 1)).h = (D i).h → ∃ r, (D (i + 1)).hs = (D (i + 1)).h :: r ∧ r.length = cnt chain (fun c => decide (c < i)) + if i ∈ chain then 1 else 0 := by
      intro a b c
      exact ⟨r, by rw [b, c, h1], by rw [if_neg (out a), h2]; rfl⟩
    cases hk with
    | skip _ _ h _ _ hs =>
      by_cases hc : (l[i]).op.cls = 2
      · rw [if_pos hc] at hs
        exact ⟨(D i).hs, by rw [hs, h], by rw [h1, if_pos (inn hc)]; simp [h2]⟩
      · rw [if_neg hc] at hs
        exact plain hc hs h
    | fresh _ hc _ _ _ _ h _ _ hs => exact plain (by omega) hs h
    | act _ hc _ _ _ hs => exact ⟨(D i).hs, hs, by rw [h1, if_pos (inn hc)]; simp [h2]⟩
    | read1 _ hc _ _ _ h _ _ hs => exact plain (by omega) hs h
    | read _ hc _ _ _ h _ _ hs => exact plain (by omega) hs h
    | idle _ hc _ _ h _ _ hs => exact plain (by omega) hs h
theorem Trc.suffix (k : Trc E ih l D val) {i : Nat} : ∀ j, i ≤ j → j ≤ l.length → (∃ r, (D j).hs = r ++ (D i).hs) ∧ ∀ f, f ∈ (D i).fs → f ∈ (D j).fs := by
  intro j hij hj
  induction j with
  | zero => have : i = 0 := by omega
            subst this; exact ⟨⟨[], rfl⟩, fun f hf => hf⟩
  | succ j ihj =>
    by_cases h : i = j + 1
    · subst h; exact ⟨⟨[], rfl⟩, fun f hf => hf⟩
    · obtain ⟨⟨r, h1⟩, h2⟩ := ihj (by omega) (by omega)
      have hx : l[j]? = some l[j] := by simp [show j < l.length by omega]
      have hk := k.kind hx
      cases hk with
      | skip _ _ _ _ _ hs fs =>
        refine ⟨?_, fun f hf => by rw [fs]; exact h2 f hf⟩
        split at hs
        · exact ⟨(D j).h :: r, by rw [hs, h1]; rfl⟩
        · exact ⟨r, by rw [hs, h1]⟩
      | fresh _ _ _ _ _ _ _ _ _ hs fs => exact ⟨⟨r, by rw [hs, h1]⟩, fun f hf => by rw [fs]; exact h2 f hf⟩
      | act _ _ _ _ _ hs fs => exact ⟨⟨(D (j + 1)).h :: r, by rw [hs, h1]; rfl⟩, fun f hf => by rw [fs]; exact h2 f hf⟩
      | read1 _ _ _ _ _ _ _ _ hs fs => exact ⟨⟨r, by rw [hs, h1]⟩, fun f hf => by rw [fs]; exact h2 f hf⟩
      | read _ _ _ _ _ _ _ _ hs fs => exact ⟨⟨r, by rw [hs, h1]⟩, fun f hf => by rw [fs]; exact List.mem_cons_of_mem _ (h2 f hf)⟩
      | idle _ _ _ _ _ _ _ hs fs => exact ⟨⟨r, by rw [hs, h1]⟩, fun f hf => by rw [fs]; exact h2 f hf⟩
end
end Go.Ev
namespace Go.Ev
open Go Go.RowKit
variable {V : Vn} {P : Program} {μ : Map} {gs : List Nat}
/-! ### heaps that differ in their making alone -/
theorem HR.same {h H : Hp} {w : World} (hg : ∀ id, H.t.get id = h.t.get id) (hn : H.nx = h.nx) (k : HR V μ h w) : HR V μ H w :=
  ⟨fun id b e => k.blk id b (by rw [← hg]; exact e), fun i j a b l m hi hj => k.apart i j a b l m (by rw [← hg]; exact hi) (by rw [← hg]; exact hj), fun id hi => k.fresh id (by rw [← hn]; exact hi), k.inW⟩
theorem Ext.same {μ' : Map} {h h' H : Hp} {w w' : World} (hg : ∀ id, H.t.get id = h'.t.get id) (hn : H.nx = h'.nx) (k : Ext μ h w μ' h' w') : Ext μ h w μ' H w' :=
  ⟨k.le, k.size, fun b hb hw => ⟨(k.frame b hb hw).1, fun ⟨id, a, l, q1, q2⟩ => (k.frame b hb hw).2 ⟨id, a, l, by rw [← hg]; exact q1, q2⟩⟩, k.os, k.tape, k.output, by rw [hn]; exact k.nx, k.old⟩
theorem HR.kept {h : Hp} {w : World} (k : HR V μ h w) {p : Pos} (hp : h.nx.toNat ≤ p.toNat) : HR V μ { h with nx := p } w ∧ Ext μ h w μ { h with nx := p } w :=
  ⟨⟨k.blk, k.apart, fun id hi => k.fresh id (Nat.le_trans hp hi), k.inW⟩, ⟨.refl _, Nat.le_refl _, fun b hb hw => ⟨rfl, hw⟩, rfl, rfl, rfl, hp, fun _ _ => rfl⟩⟩
/-- A block at a name that was kept for it. -/
theorem HR.addAt {h : Hp} {w : World} (k : HR V μ h w) {id : Pos} (hid : μ id = none) (hlt : id.toNat < h.nx.toNat) {cs : List AVal} {c : Array Value} (e : TypeId) (hv : VRs V μ cs c.toList) :
    HR V (μ.add id ⟨w.heap.size, 0, c.size⟩) { h with t := h.t.set (.cells cs false) id } (w.alloc (.cells c e)) := by
  have hle : μ.le (μ.add id ⟨w.heap.size, 0, c.size⟩) := Map.add_le hid _
  have kp := k.push (.cells c e)
  have hsz : (w.alloc (.cells c e)).heap.size = w.heap.size + 1 := by simp
  refine ⟨?_, ?_, ?_, ?_⟩
  · intro i b hb
    by_cases hi : i = id
    · subst hi
      rw [PT.get_set] at hb; cases hb
      refine ⟨_, Map.add_same _ _ _, c, e, 0, 0, by show (w.heap.push _)[w.heap.size]? = _; simp, rfl, ?_, ?_, fun _ => .inl rfl⟩
      · have := hv.length; simp at this ⊢; omega
      · have := hv.length
        simp only [List.drop_zero]
        exact VRs.mono hle _ _ (VRs_take_self hv)
    · rw [PT.get_set_ne _ _ _ _ (Ne.symm hi)] at hb
      obtain ⟨l, p, q⟩ := kp.blk i b hb
      exact ⟨l, hle _ _ p, q.mono hle⟩
  · intro i j a b l m hi hj hl hm hij
    by_cases h1 : i = id
    · subst h1
      rw [Map.add_same] at hl; cases hl
      rw [PT.get_set_ne _ _ _ _ hij] at hj
      simp only [Map.add, if_neg (Ne.symm hij)] at hm
      have := k.inW j m hm
      show w.heap.size ≠ m.b
      omega
    · rw [PT.get_set_ne _ _ _ _ (Ne.symm h1)] at hi
      simp only [Map.add, if_neg h1] at hl
      by_cases h2 : j = id
      · subst h2
        rw [Map.add_same] at hm; cases hm
        have := k.inW i l hl
        show l.b ≠ w.heap.size
        omega
      · rw [PT.get_set_ne _ _ _ _ (Ne.symm h2)] at hj
        simp only [Map.add, if_neg h2] at hm
        exact k.apart i j a b l m hi hj hl hm hij
  · intro i hi
    have hne : i ≠ id := fun hh => by subst hh; have : h.nx.toNat ≤ i.toNat := hi; omega
    simp only [Map.add, if_neg hne]
    exact k.fresh i hi
  · intro i l hl
    by_cases h1 : i = id
    · subst h1; rw [Map.add_same] at hl; cases hl; rw [hsz]; show w.heap.size < _; omega
    · simp only [Map.add, if_neg h1] at hl
      have := k.inW i l hl
      rw [hsz]; omega
/-- A new block is no old one's. -/
theorem Ext.addAt {μ0 : Map} {h0 : Hp} {w0 : World} {h : Hp} {w : World} (x : Ext μ0 h0 w0 μ h w) {id : Pos} (hid : μ id = none) (hlt : h0.nx.toNat ≤ id.toNat) {cs : List AVal} (c : Array Value) (e : TypeId) :
    Ext μ0 h0 w0 (μ.add id ⟨w.heap.size, 0, c.size⟩) { h with t := h.t.set (.cells cs false) id } (w.alloc (.cells c e)) := by
  refine ⟨x.le.trans (Map.add_le hid _), Nat.le_trans x.size (by simp), ?_, x.os, x.tape, x.output, x.nx, ?_⟩
  · intro b hb hw
    have hb' : b < w.heap.size := Nat.lt_of_lt_of_le hb x.size
    obtain ⟨q1, q2⟩ := x.frame b hb hw
    refine ⟨(Below.heap_alloc _ _ _ hb').trans q1, ?_⟩
    rintro ⟨j, a, l, ha, har, hl, he⟩
    by_cases hj : j = id
    · subst hj; rw [Map.add_same] at hl; cases hl; simp at he; omega
    · simp only [PT.get_set_ne _ _ _ _ (Ne.symm hj)] at ha
      simp only [Map.add, if_neg hj] at hl
      exact q2 ⟨j, a, l, ha, har, hl, he⟩
  · intro i hi
    have hne : i ≠ id := fun hh => by subst hh; omega
    simp only [Map.add, if_neg hne]
    exact x.old i hi
/-! ### new blocks laid on -/
theorem plus_not : ∀ {l : List Pd} {t : PT ABlk} {id : Pos}, (∀ p ∈ l, p.id ≠ id) → (plus t l).get id = t.get id
  | [], t, id, _ => rfl
  | p :: r, t, id, h => by
    simp only [plus]
    rw [plus_not (fun q hq => h q (by simp [hq])), PT.get_set_ne _ _ _ _ (h p (by simp))]
theorem plus_mem : ∀ {l : List Pd} {t : PT ABlk} {p : Pd}, p ∈ l → (∀ q ∈ l, q.id = p.id → q = p) → (plus t l).get p.id = some (.cells p.cs false)
  | q :: r, t, p, hm, hu => by
    simp only [plus]
    by_cases hr : p ∈ r
    · exact plus_mem hr (fun q' hq' => hu q' (by simp [hq']))
    · have hpq : p = q := by
        rcases List.mem_cons.1 hm with h | h
        · exact h
        · exact absurd h hr
      subst hpq
      rw [plus_not (fun q' hq' he => hr (by rw [← hu q' (by simp [hq']) he]; exact hq')), PT.get_set]
/-! ### the region -/
structure Reg (P : Program) (gs : List Nat) (N : Nat) (ops : Array Oper) (l : List AOper) (chain : List Nat) : Prop where
  rel : Rel P gs N ops l
  mem : ∀ c, c ∈ chain ↔ ∃ x, l[c]? = some x ∧ x.op.cls = 2
  sorted : chain.Pairwise (· < ·)
  ok : chainOk (Region.before ops) chain = true
  back : edgesBack ops.toList.zipIdx = true
  ord : Ord ops l
  pre : ∀ (j : Nat) (y : AOper), l[j]? = some y → y.pre = Ev.pre ops j
  lo : ∀ (j : Nat) (y : AOper), l[j]? = some y → y.lo = cnt chain (fun c => (Ev.pre ops j).testBit c)
  hi : ∀ (j : Nat) (y : AOper), l[j]? = some y → y.hi = cnt chain (fun c => c != j && !(Ev.pre ops c).testBit j)
theorem cRegion_reg {N : Nat} {ops : Array Oper} {l : List AOper} (h : cRegion P gs N ops true = some (.region l true)) : ∃ chain, Reg P gs N ops l chain := by
  have hrel : Rel P gs N ops l := by
    obtain ⟨l', e, hr⟩ := cRegion_rel h
    cases e; exact hr
  unfold cRegion at h
  simp only [Option.bind_eq_bind, Option.bind_eq_some_iff, if_true] at h
  obtain ⟨l0, hl0, h⟩ := h
  split at h
  · simp at h
  · simp only [Option.bind_eq_some_iff] at h
    obtain ⟨l1, hl1, h⟩ := h
    simp only [Bool.true_and] at h
    split at h
    · simp at h
    · rename_i hok
      simp only [Option.pure_def, Option.some.injEq, ACode.region.injEq, and_true] at h
      subst h
      simp only [Bool.not_eq_true', Bool.not_eq_false, Bool.and_eq_true] at hok
      obtain ⟨⟨ok1, ok2⟩, ok3⟩ := hok
      obtain ⟨a1, a2⟩ := cOpers_spec hl0
      obtain ⟨b1, b2⟩ := cOperAll_spec hl1
      have key : ∀ (j : Nat) (y : AOper), l1[j]? = some y → ∃ o A, ops.toList[j]? = some o ∧ l0[j]? = some (o, A) ∧ y.op = A ∧ y.lo = cnt (chainFrom l0 0) (fun c => (Ev.pre ops j).testBit c) ∧ y.hi = cnt (chainFrom l0 0) (fun c => c != j && !(Ev.pre ops c).testBit j) ∧ y.pre = Ev.pre ops j := by
        intro j y hy
        have hlt : j < ops.toList.length := by rw [← a1, ← b1]; exact (List.getElem?_eq_some_iff.1 hy).1
        have ho : ops.toList[j]? = some ops.toList[j] := by simp [hlt]
        obtain ⟨A, q1, q2⟩ := a2 j _ ho
        obtain ⟨y', q3, q4⟩ := b2 j _ q1
        rw [hy] at q3; cases q3
        obtain ⟨r1, r2, r3, r4, r5, r6⟩ := cOper_spec q4
        rw [Nat.zero_add] at r4 r5 r6
        exact ⟨_, A, ho, q1, r2, r4, r5, r6⟩
      refine ⟨chainFrom l0 0, hrel, ?_, chainFrom_sorted _ _, ok1, ok2, ?_, fun j y hy => ?_, fun j y hy => ?_, fun j y hy => ?_⟩
      · intro c
        rw [mem_chainFrom]
        constructor
        · rintro ⟨j, x, rfl, hx, hc⟩
          rw [Nat.zero_add]
          obtain ⟨y, q3, q4⟩ := b2 j _ hx
          obtain ⟨_, r2, _⟩ := cOper_spec q4
          exact ⟨y, q3, by rw [r2]; exact hc⟩
        · rintro ⟨y, hy, hc⟩
          obtain ⟨o, A, _, q1, q2, _⟩ := key c y hy
          exact ⟨c, (o, A), by simp, q1, by rw [← q2]; exact hc⟩
      · exact orderedAll_spec (fun j y hy => by obtain ⟨_, _, _, _, _, _, _, r⟩ := key j y hy; exact r) ok3
      · obtain ⟨_, _, _, _, _, _, _, r⟩ := key j y hy; exact r
      · obtain ⟨_, _, _, _, _, r, _⟩ := key j y hy; exact r
      · obtain ⟨_, _, _, _, _, _, r, _⟩ := key j y hy; exact r
theorem cnt_lt {p q : Nat → Bool} : ∀ {chain : List Nat}, (∀ c ∈ chain, p c = true → q c = true) → (∃ c ∈ chain, q c = true ∧ p c = false) → cnt chain p < cnt chain q
  | [], _, ⟨c, hc, _⟩ => by simp at hc
  | x :: r, h, ⟨c, hc, h1, h2⟩ => by
    have hr : ∀ c ∈ r, p c = true → q c = true := fun c hc => h c (by simp [hc])
    unfold cnt
    simp only [List.filter_cons]
    rcases List.mem_cons.1 hc with rfl | hc
    · rw [h1, h2]
      have := cnt_mono hr
      unfold cnt at this
      simp; omega
    · have ih := cnt_lt hr ⟨c, hc, h1, h2⟩
      unfold cnt at ih
      by_cases hp : p x = true
      · rw [hp, h x (by simp) hp]; simpa using ih
      · simp only [Bool.not_eq_true] at hp
        rw [hp]
        cases hq : q x <;> simp <;> omega
/-! ### the new blocks that stand beside the chain -/
section
variable (ops : Array Oper) (l : List AOper) (D : Nat → Dr)
def mg (L : Nat → Bool) (k : Nat) : Prop := ∃ c, L c = true ∧ isCW l D c ∧ (Ev.pre ops c).testBit k = true
def Beside (L : Nat → Bool) (id : Pos) (p : Pd) : Prop := ∃ k, apAt l D k = some p ∧ p.id = id ∧ L k = true ∧ ¬ mg ops l D L k
open Classical in
noncomputable def XL (L : Nat → Bool) (id : Pos) : Option ABlk := if h : ∃ p, Beside ops l D L id p then some (.cells h.choose.cs false) else none
end
section
variable {ops : Array Oper} {l : List AOper} {D : Nat → Dr} {L L' : Nat → Bool} {id : Pos}
theorem XL_some {b : ABlk} (h : XL ops l D L id = some b) : ∃ p, Beside ops l D L id p ∧ b = .cells p.cs false := by
  unfold XL at h
  split at h
  · rename_i hh; cases h; exact ⟨_, hh.choose_spec, rfl⟩
  · simp at h
theorem XL_none (h : ∀ p, ¬ Beside ops l D L id p) : XL ops l D L id = none := by
  unfold XL
  rw [dif_neg (fun ⟨p, hp⟩ => h p hp)]
variable {E : Env} {ih : Run} {val : Nat → AVal}
theorem Trc.beside_eq (k : Trc E ih l D val) {p q : Pd} (hp : Beside ops l D L id p) (hq : Beside ops l D L' id q) : p = q := by
  obtain ⟨i, a1, a2, _⟩ := hp
  obtain ⟨j, b1, b2, _⟩ := hq
  have := k.ap_inj a1 b1 (a2.trans b2.symm)
  subst this
  rw [a1] at b1; cases b1; rfl
theorem Trc.XL_of (k : Trc E ih l D val) {p : Pd} (hp : Beside ops l D L id p) : XL ops l D L id = some (.cells p.cs false) := by
  unfold XL
  have hh : ∃ p, Beside ops l D L id p := ⟨p, hp⟩
  rw [dif_pos hh]
  rw [k.beside_eq hh.choose_spec hp]
theorem Trc.XL_congr (k : Trc E ih l D val) (h : ∀ p, Beside ops l D L id p ↔ Beside ops l D L' id p) : XL ops l D L id = XL ops l D L' id := by
  by_cases hh : ∃ p, Beside ops l D L id p
  · obtain ⟨p, hp⟩ := hh
    rw [k.XL_of hp, k.XL_of ((h p).1 hp)]
  · rw [XL_none (fun p hp => hh ⟨p, hp⟩), XL_none (fun p hp => hh ⟨p, (h p).2 hp⟩)]
end
end Go.Ev
namespace Go.Ev
open Go Go.RowKit
variable {V : Vn} {P : Program} {gs : List Nat}
/-! ### a region that draws, in any order -/
structure Rgn (P : Program) (gs : List Nat) (E : Env) (ih : Run) (N : Nat) (ops : Array Oper) (l : List AOper) (chain : List Nat) (D : Nat → Dr) (val : Nat → AVal) (h0 : Hp) : Prop where
  k : Trc E ih l D val
  r : Reg P gs N ops l chain
  zh : (D 0).h = { h0 with nx := keep l h0.nx }
  zr : (D 0).rid = h0.nx
  zp : (D 0).pend = []
  zs : (D 0).hs = [(D 0).h]
  fl : (D l.length).fs.all (flOk E.bnds (D l.length).hs.reverse 0) = true
structure Inv (V : Vn) (N : Nat) (ops : Array Oper) (l : List AOper) (chain : List Nat) (D : Nat → Dr) (val : Nat → AVal) (μ0 : Map) (h0 : Hp) (w0 : World) (L : Nat → Bool) (H : Hp) (μ : Map) (a : Act) (w : World) : Prop where
  closed : Closed ops L
  ltn : ∀ k, L k = true → k < l.length
  at_ : ∃ i, i ≤ l.length ∧ cnt chain L = cnt chain (fun c => decide (c < i)) ∧ Ov (XL ops l D L) (D i).h H
  hr : HR V μ H w
  un : ∀ k p, apAt l D k = some p → L k = false → μ p.id = none
  tr : TR V μ (tmL l val (D 0).tm L l.length) a
  sz : Sz N a
  df : a.defers = []
  ext : Ext μ0 h0 w0 μ H w
  nx : (keep l h0.nx).toNat ≤ H.nx.toNat
theorem flOk_at {B : Bnds} {f : Fl} : ∀ {hs : List Hp} {n : Nat}, flOk B hs n f = true → ∀ (k : Nat) (h : Hp), hs[k]? = some h → flOk1 B f (n + k) h = true
  | [], n, e, k, h, hk => by simp at hk
  | x :: r, n, e, k, h, hk => by
    simp only [flOk, Bool.and_eq_true] at e
    cases k with
    | zero => simp at hk; subst hk; exact e.1
    | succ k => rw [show n + (k + 1) = n + 1 + k by omega]; exact flOk_at e.2 k h (by simpa using hk)
section
variable {E : Env} {ih : Run} {N : Nat} {ops : Array Oper} {l : List AOper} {chain : List Nat} {D : Nat → Dr} {val : Nat → AVal} {μ0 : Map} {h0 : Hp} {w0 : World}
variable {L : Nat → Bool} {H : Hp} {μ : Map} {a : Act} {w : World} {i : Nat} {x : AOper}
/-- the heap behind so many of the chain -/
theorem Rgn.h_eq' (g : Rgn P gs E ih N ops l chain D val h0) {i j : Nat} (hij : i ≤ j) (hj : j ≤ l.length) (hc : cnt chain (fun c => decide (c < i)) = cnt chain (fun c => decide (c < j))) : (D i).h = (D j).h := by
  obtain ⟨ri, e1, n1⟩ := g.k.hs g.r.sorted g.r.mem g.zs i (by omega)
  obtain ⟨rj, e2, n2⟩ := g.k.hs g.r.sorted g.r.mem g.zs j hj
  obtain ⟨⟨r, e3⟩, _⟩ := g.k.suffix (i := i) j hij hj
  rw [e1, e2] at e3
  have : r = [] := by
    have := congrArg List.length e3
    simp at this
    apply List.eq_nil_of_length_eq_zero
    omega
  subst this
  simp at e3
  exact e3.1.symm
theorem Rgn.h_eq (g : Rgn P gs E ih N ops l chain D val h0) {i j : Nat} (hi : i ≤ l.length) (hj : j ≤ l.length) (hc : cnt chain (fun c => decide (c < i)) = cnt chain (fun c => decide (c < j))) : (D i).h = (D j).h := by
  rcases Nat.le_total i j with h | h
  · exact g.h_eq' h hj hc
  · exact (g.h_eq' h hi hc.symm).symm
theorem Rgn.h_at (g : Rgn P gs E ih N ops l chain D val h0) {i : Nat} (hi : i ≤ l.length) : (D l.length).hs.reverse[cnt chain (fun c => decide (c < i))]? = some (D i).h := by
  obtain ⟨ri, e1, n1⟩ := g.k.hs g.r.sorted g.r.mem g.zs i hi
  obtain ⟨⟨r, e3⟩, _⟩ := g.k.suffix (i := i) l.length hi (Nat.le_refl _)
  rw [e3, e1, ← n1]
  simp only [List.reverse_append, List.reverse_cons, List.append_assoc]
  rw [List.getElem?_append_right (by simp)]
  simp
/-- the names of the new blocks -/
theorem Rgn.id_lo (g : Rgn P gs E ih N ops l chain D val h0) {k : Nat} {p : Pd} (hp : apAt l D k = some p) : h0.nx.toNat ≤ p.id.toNat := by
  obtain ⟨_, e2, e3⟩ := apAt_ix hp
  have := g.k.rid_le (i := 0) (j := k) (by omega) (by omega)
  rw [g.zr] at this; rw [e2]; exact this
theorem Rgn.id_hi (g : Rgn P gs E ih N ops l chain D val h0) {k : Nat} {p : Pd} (hp : apAt l D k = some p) : p.id.toNat < (keep l h0.nx).toNat := by
  obtain ⟨_, e2, e3⟩ := apAt_ix hp
  have := g.k.rid_lt hp e3 (Nat.le_refl _)
  rw [g.k.rid_keep l.length (Nat.le_refl _), List.take_length, g.zr] at this
  exact this
theorem Rgn.cw (g : Rgn P gs E ih N ops l chain D val h0) {c : Nat} (h : isCW l D c) : c ∈ chain := by
  obtain ⟨x, h1, h2, _⟩ := h
  exact (g.r.mem c).2 ⟨x, h1, h2⟩
/-- Where an operation of the chain may come up all that are ahead of it, and no other of the chain, were listed. -/
theorem Rgn.below (g : Rgn P gs E ih N ops l chain D val h0) (hc : Closed ops L) (hi : L i = false) (hb : ∀ j, (pre ops i).testBit j = true → L j = true) (hm : i ∈ chain) : ∀ c ∈ chain, L c = decide (c < i) := by
  intro c hcm
  by_cases hlt : c < i
  · have h1 : addL L i i = true := by simp [addL]
    have := chain_down (closed_add hc hb) g.r.ok g.r.sorted hcm hm hlt h1
    simp only [addL, Bool.or_eq_true, beq_iff_eq] at this
    rcases this with h | h
    · simp [h, hlt]
    · omega
  · simp only [hlt, decide_false]
    cases hL : L c with
    | false => rfl
    | true =>
      by_cases e : c = i
      · subst e; rw [hi] at hL; cases hL
      · have := chain_down hc g.r.ok g.r.sorted hm hcm (by omega) hL
        rw [hi] at this; cases this
theorem Rgn.cnt_in (g : Rgn P gs E ih N ops l chain D val h0) (hc : Closed ops L) (hi : L i = false) (hb : ∀ j, (pre ops i).testBit j = true → L j = true) (hm : i ∈ chain) :
    cnt chain L = cnt chain (fun c => decide (c < i)) ∧ cnt chain (addL L i) = cnt chain (fun c => decide (c < i + 1)) := by
  have hbl := g.below hc hi hb hm
  refine ⟨cnt_congr hbl, cnt_congr fun c hcm => ?_⟩
  simp only [addL, hbl c hcm]
  by_cases h1 : c = i
  · subst h1; simp
  · have : (c == i) = false := by simpa using h1
    rw [this, Bool.or_false]
    simp only [decide_eq_decide]; omega
theorem cnt_out (hm : i ∉ chain) : cnt chain (addL L i) = cnt chain L := by
  apply cnt_congr
  intro c hc
  have : (c == i) = false := by simp; rintro rfl; exact hm hc
  simp [addL, this]
/-- An operation that makes no block and is none of the chain's leaves the blocks beside it. -/
theorem Rgn.XL_plain (g : Rgn P gs E ih N ops l chain D val h0) (ha : ∀ p, apAt l D i ≠ some p) (hw : ¬ isCW l D i) : XL ops l D (addL L i) = XL ops l D L := by
  funext id
  refine g.k.XL_congr fun p => ⟨?_, ?_⟩
  · rintro ⟨k, h1, h2, h3, h4⟩
    have hk : k ≠ i := fun e => by subst e; exact ha p h1
    refine ⟨k, h1, h2, ?_, fun ⟨c, c1, c2, c3⟩ => h4 ⟨c, by simp [addL, c1], c2, c3⟩⟩
    simpa [addL, hk] using h3
  · rintro ⟨k, h1, h2, h3, h4⟩
    refine ⟨k, h1, h2, by simp [addL, h3], fun ⟨c, c1, c2, c3⟩ => h4 ⟨c, ?_, c2, c3⟩⟩
    have hk : c ≠ i := fun e => by subst e; exact hw c2
    simpa [addL, hk] using c1
theorem apAt_cls {p : Pd} (hx : l[i]? = some x) (hc : x.op.cls ≠ 3) : apAt l D i ≠ some p := by
  unfold apAt
  rw [hx]
  dsimp only
  rw [if_neg (fun h => hc h.1)]
  simp
theorem not_cw (hx : l[i]? = some x) (hc : x.op.cls ≠ 2) : ¬ isCW l D i := by
  rintro ⟨y, hy, h, _⟩
  rw [hx] at hy; cases hy
  exact hc h
/-- what an operation needs stands beside the chain -/
theorem Rgn.need_beside (g : Rgn P gs E ih N ops l chain D val h0) (hlt : i < l.length) (hx : l[i]? = some x) (hb : ∀ j, (pre ops i).testBit j = true → L j = true) (hbl : ∀ c, isCW l D c → L c = true → c < i) {p : Pd} (hp : p ∈ needs x.pre (D i).pend) :
    Beside ops l D L p.id p ∧ (pre ops i).testBit p.ix = true ∧ apAt l D p.ix = some p := by
  unfold needs at hp
  rw [List.mem_filter, g.r.pre i x hx, g.k.pend g.r.pre g.r.rel.len g.r.back g.zp i (by omega)] at hp
  obtain ⟨⟨j, h1, h2, h3⟩, h4⟩ := hp
  have hix := (apAt_ix h2).1
  rw [hix] at h4
  refine ⟨⟨j, h2, rfl, hb j h4, fun ⟨c, c1, c2, c3⟩ => ?_⟩, by rw [hix]; exact h4, by rw [hix]; exact h2⟩
  rw [h3 c (hbl c c2 c1) c2] at c3; cases c3
/-- The heap with what an operation needs laid on is part of the heap that there is. -/
theorem Rgn.need (g : Rgn P gs E ih N ops l chain D val h0) (hlt : i < l.length) (hx : l[i]? = some x) (hb : ∀ j, (pre ops i).testBit j = true → L j = true) (hbl : ∀ c, isCW l D c → L c = true → c < i) {h : Hp} (ho : Ov (XL ops l D L) h H)
    {Y : Pos → Option ABlk} (hY0 : ∀ p ∈ needs x.pre (D i).pend, Y p.id = none) (hY1 : ∀ id, (∀ p ∈ needs x.pre (D i).pend, p.id ≠ id) → Y id = XL ops l D L id) : Ov Y { h with t := plus h.t (needs x.pre (D i).pend) } H := by
  have uniq : ∀ p ∈ needs x.pre (D i).pend, ∀ q ∈ needs x.pre (D i).pend, q.id = p.id → q = p := by
    intro p hp q hq e
    obtain ⟨h1, _, _⟩ := g.need_beside hlt hx hb hbl hp
    obtain ⟨h2, _, _⟩ := g.need_beside hlt hx hb hbl hq
    rw [e] at h2
    exact g.k.beside_eq h2 h1
  have at_ : ∀ p ∈ needs x.pre (D i).pend, (plus h.t (needs x.pre (D i).pend)).get p.id = some (.cells p.cs false) := fun p hp => plus_mem hp (uniq p hp)
  refine ⟨ho.nx, fun id => ?_, fun id b hid => ?_⟩
  · by_cases hin : ∃ p ∈ needs x.pre (D i).pend, p.id = id
    · obtain ⟨p, hp, rfl⟩ := hin
      have hXp := g.k.XL_of (g.need_beside hlt hx hb hbl hp).1
      rw [at_ p hp, ho.get, (ho.low _ _ hXp).1, hXp]
      rfl
    · have hin' : ∀ p ∈ needs x.pre (D i).pend, p.id ≠ id := fun p hp e => hin ⟨p, hp, e⟩
      rw [plus_not hin', hY1 id hin', ho.get]
  · by_cases hin : ∃ p ∈ needs x.pre (D i).pend, p.id = id
    · obtain ⟨p, hp, rfl⟩ := hin
      rw [hY0 p hp] at hid; cases hid
    · have hin' : ∀ p ∈ needs x.pre (D i).pend, p.id ≠ id := fun p hp e => hin ⟨p, hp, e⟩
      rw [hY1 id hin'] at hid
      obtain ⟨q1, q2⟩ := ho.low id b hid
      exact ⟨by rw [plus_not hin']; exact q1, q2⟩
/-- What an acting operation needs stands beside the chain no more. -/
theorem Rgn.XL_act (g : Rgn P gs E ih N ops l chain D val h0) (hc : Closed ops L) (hlt : i < l.length) (hi : L i = false) (hx : l[i]? = some x) (hb : ∀ j, (pre ops i).testBit j = true → L j = true) (hw : isCW l D i) (h2 : x.op.cls = 2) :
    (∀ p ∈ needs x.pre (D i).pend, XL ops l D (addL L i) p.id = none) ∧ (∀ id, (∀ p ∈ needs x.pre (D i).pend, p.id ≠ id) → XL ops l D (addL L i) id = XL ops l D L id) := by
  have hbl := g.below hc hi hb (g.cw hw)
  have hbl' : ∀ c, isCW l D c → L c = true → c < i := fun c h1 h2 => by
    have := hbl c (g.cw h1); rw [h2] at this; simpa using this.symm
  refine ⟨fun p hp => XL_none fun q hq => ?_, fun id hin => g.k.XL_congr fun p => ⟨?_, ?_⟩⟩
  · obtain ⟨h1, h2', h3⟩ := g.need_beside hlt hx hb hbl' hp
    have e := g.k.beside_eq hq h1
    subst e
    obtain ⟨k, a1, a2, a3, a4⟩ := hq
    have hk := (apAt_ix a1).1
    exact a4 ⟨i, by simp [addL], hw, by rw [← hk]; exact h2'⟩
  · rintro ⟨k, a1, a2, a3, a4⟩
    have hk : k ≠ i := fun e => by subst e; exact apAt_cls hx (by omega) a1
    refine ⟨k, a1, a2, by simpa [addL, hk] using a3, fun ⟨c, c1, c2, c3⟩ => a4 ⟨c, by simp [addL, c1], c2, c3⟩⟩
  · rintro ⟨k, a1, a2, a3, a4⟩
    refine ⟨k, a1, a2, by simp [addL, a3], ?_⟩
    rintro ⟨c, c1, c2, c3⟩
    by_cases e : c = i
    · subst e
      refine hin p ?_ a2
      unfold needs
      rw [List.mem_filter, g.r.pre c x hx, g.k.pend g.r.pre g.r.rel.len g.r.back g.zp c (by omega), (apAt_ix a1).1]
      refine ⟨⟨k, pre_lt g.r.back c (by rw [← g.r.rel.len]; exact hlt) c3, a1, fun c' hc' hw' => ?_⟩, c3⟩
      cases hbit : (pre ops c').testBit k with
      | false => rfl
      | true => exact absurd ⟨c', by rw [hbl c' (g.cw hw')]; simpa using hc', hw', hbit⟩ a4
    · exact a4 ⟨c, by simpa [addL, e] using c1, c2, c3⟩
end
end Go.Ev
namespace Go.Ev
open Go Go.RowKit
variable {V : Vn} {P : Program} {gs : List Nat}
theorem wantA_same {g : Option (Pos × Bool)} {t u : PT AVal} (h : ∀ p b, g = some (p, b) → t.get p = u.get p) : wantA g t = wantA g u := by
  cases g with
  | none => rfl
  | some q => obtain ⟨p, b⟩ := q; simp only [wantA]; rw [h p b rfl]
theorem TR.congr {μ : Map} {t u : PT AVal} {a : Act} (h : ∀ p, u.get p = t.get p) (k : TR V μ t a) : TR V μ u a := fun s => by rw [h]; exact k s
theorem opA_plain {E : Env} {ih : Run} {op : AOp} (h : op.cls ≠ 2) (tm : PT AVal) (H : Hp) : opA E ih op tm H = evOp E.bnds op tm H := by
  cases op <;> first | rfl | exact absurd rfl h
section
variable {E : Env} {ih : Run} {N : Nat} {ops : Array Oper} {l : List AOper} {chain : List Nat} {D : Nat → Dr} {val : Nat → AVal} {μ0 : Map} {h0 : Hp} {w0 : World}
variable {L : Nat → Bool} {H : Hp} {μ : Map} {a : Act} {w : World} {i : Nat} {x : AOper}
theorem Inv.next (g : Rgn P gs E ih N ops l chain D val h0) (I : Inv V N ops l chain D val μ0 h0 w0 L H μ a w) (hi : L i = false) (hx : l[i]? = some x) (hb : ∀ j, (pre ops i).testBit j = true → L j = true)
    {o : Oper} (hd : x.dst = o.dst.map Pos.ofNat) (hdn : ∀ d, o.dst = some d → d < N) {H' : Hp} {μ' : Map} {w' : World} {v' : Value} (hv : VR V μ' (val i) v') (hr : HR V μ' H' w') (ext : Ext μ0 h0 w0 μ' H' w') (le : μ.le μ') (nx : H.nx.toNat ≤ H'.nx.toNat)
    (un : ∀ k p, apAt l D k = some p → addL L i k = false → μ' p.id = none)
    (at_ : ∃ j, j ≤ l.length ∧ cnt chain (addL L i) = cnt chain (fun c => decide (c < j)) ∧ Ov (XL ops l D (addL L i)) (D j).h H') : Inv V N ops l chain D val μ0 h0 w0 (addL L i) H' μ' (a.put o.dst v') w' := by
  refine ⟨closed_add I.closed hb, ?_, at_, hr, un, ?_, by simpa [Sz, put_size] using I.sz, by rw [put_defers']; exact I.df, ext, Nat.le_trans I.nx nx⟩
  · intro k hk
    simp only [addL, Bool.or_eq_true, beq_iff_eq] at hk
    rcases hk with hk | rfl
    · exact I.ltn k hk
    · exact (List.getElem?_eq_some_iff.1 hx).1
  · have h1 : TR V μ' (putD (o.dst.map Pos.ofNat) (val i) (tmL l val (D 0).tm L l.length)) (a.put o.dst v') := (I.tr.mono le).put hv (fun t ht => Nat.lt_of_lt_of_le (hdn t ht) I.sz)
    exact h1.congr (fun p => by rw [tmL_add g.r.ord I.closed hx hi p, hd])
/-- One step, in any order. -/
theorem Inv.step (hB : BOk V E.bnds) (hH : HookOk V P gs E) (hF : FnsOk P gs E) (hOH : OvHook E) (hI : RunOk V P gs ih) (hOv : OvRun ih) (hg0 : GlOk gs μ0)
    (g : Rgn P gs E ih N ops l chain D val h0) (I : Inv V N ops l chain D val μ0 h0 w0 L H μ a w) (hi : L i = false) (hlt : i < l.length) (hb : ∀ j, (pre ops i).testBit j = true → L j = true) {K : Act → World → Prop} {Q : Exit → Act → World → Prop}
    (hK : ∀ H' μ' a' w', Inv V N ops l chain D val μ0 h0 w0 (addL L i) H' μ' a' w' → K a' w') : wpOp P ops Q i K a w := by
  have hlo : i < ops.size := by rw [← g.r.rel.len]; exact hlt
  have ho : ops[i]? = some ops[i] := by simp [hlo]
  obtain ⟨x, hx, hxd, hxo, hxg, hxn⟩ := g.r.rel.at_ i _ ho
  generalize ops[i] = o at ho hxd hxo hxg hxn
  have hgl : GlOk gs μ := hg0.mono I.ext.le
  -- operands are as in the text's order
  have agree : ∀ p ∈ x.names, (tmL l val (D 0).tm L l.length).get p = (D i).tm.get p := fun p hp => by
    rw [tmL_agree g.r.ord I.closed hx hi hb hp, g.k.tm i (by omega)]
  have sop : Same x.op.names (tmL l val (D 0).tm L l.length) (D i).tm := fun p hp => agree p (by unfold AOper.names; exact List.mem_append_right _ hp)
  have hwant : wantA x.guard (tmL l val (D 0).tm L l.length) = wantA x.guard (D i).tm := wantA_same fun p b e => agree p (by
    unfold AOper.names; rw [e]; simp)
  have hkind := g.k.kind hx
  obtain ⟨j0, hj0, hcnt, hov⟩ := I.at_
  -- plain steps
  have plain : x.op.cls ≠ 2 → x.op.cls ≠ 3 → ∀ {H1 : Hp} {X : Pos → Option ABlk}, wantA x.guard (D i).tm = some true → evOp E.bnds x.op (D i).tm H = some (val i, H) → wpOp P ops Q i K a w := by
    intro h2 h3 H1 X hw he
    unfold wpOp
    simp only [ho, wanted_ok I.tr hxg (hwant.trans hw), if_true]
    refine .inl (opA_ok hB hH hF hI hxo (h := H) (h' := H) (v := val i) (tm := tmL l val (D 0).tm L l.length) ?_ I.tr hgl I.hr ?_)
    · rw [opA_plain h2, evOp_same sop]; exact he
    · intro v' w' μ' q1 q2 q3
      refine hK H μ' _ w' (I.next g hi hx hb hxd hxn q1 q2 (I.ext.trans q3) q3.le q3.nx ?_ ?_)
      · intro k p hp hk
        have hk' : L k = false := by
          simp only [addL, Bool.or_eq_false_iff] at hk; exact hk.1
        rw [q3.old p.id (Nat.lt_of_lt_of_le (g.id_hi hp) I.nx)]
        exact I.un k p hp hk'
      · refine ⟨j0, hj0, ?_, ?_⟩
        · rw [cnt_out, hcnt]
          rw [g.r.mem]
          rintro ⟨y, hy, hc⟩
          rw [hx] at hy; cases hy; exact h2 hc
        · rw [g.XL_plain (fun p => apAt_cls hx h3) (not_cw hx h2)]; exact hov
  cases hkind with
  | skip hw hv hh rid pend hs fs =>
    unfold wpOp
    simp only [ho, wanted_ok I.tr hxg (hwant.trans hw), Bool.false_eq_true, if_false]
    have hap : ∀ p, apAt l D i ≠ some p := by
      intro p
      unfold apAt
      rw [hx]
      dsimp only
      rw [if_neg (fun h => by rw [hw] at h; simp at h)]
      simp
    have hcw : ¬ isCW l D i := by
      rintro ⟨y, hy, _, h⟩
      rw [hx] at hy; cases hy
      rw [hw] at h; simp at h
    refine hK H μ _ w (I.next g hi hx hb hxd hxn (by rw [hv]; exact VR_undef) I.hr I.ext (.refl _) (Nat.le_refl _) ?_ ?_)
    · intro k p hp hk
      have hk' : L k = false := by
        simp only [addL, Bool.or_eq_false_iff] at hk; exact hk.1
      exact I.un k p hp hk'
    · rw [g.XL_plain hap hcw]
      by_cases hm : i ∈ chain
      · obtain ⟨c1, c2⟩ := g.cnt_in I.closed hi hb hm
        refine ⟨i + 1, by omega, c2, ?_⟩
        rw [hh, ← g.h_eq hj0 (by omega) (hcnt.symm.trans c1)]
        exact hov
      · exact ⟨j0, hj0, by rw [cnt_out hm, hcnt], hov⟩
  | fresh hw hc cs fr hf hv hh rid pend hs fs =>
    unfold wpOp
    simp only [ho, wanted_ok I.tr hxg (hwant.trans hw), if_true]
    rw [← freshA_same sop] at hf
    obtain ⟨c, e, hcs, hrun⟩ := fresh_spec (P := P) I.tr hgl hxo hf w
    left
    unfold Oper.wp
    rw [hrun]
    simp only [Oper.upon]
    have hap : apAt l D i = some ⟨i, (D i).rid, cs⟩ := by
      unfold apAt; rw [hx]; dsimp only; rw [if_pos ⟨hc, hw⟩, ← freshA_same sop, hf]; rfl
    have hid : μ (D i).rid = none := I.un i _ hap hi
    have hlo := g.id_lo hap
    have hhi := g.id_hi hap
    have hltn : (D i).rid.toNat < H.nx.toNat := Nat.lt_of_lt_of_le hhi I.nx
    have hncw : ¬ isCW l D i := not_cw hx (by omega)
    refine hK { H with t := H.t.set (.cells cs false) (D i).rid } (μ.add (D i).rid ⟨w.heap.size, 0, c.size⟩) _ _ (I.next g hi hx hb hxd hxn ?_ (I.hr.addAt hid hltn e hcs) (I.ext.addAt hid hlo c e) (Map.add_le hid _) (Nat.le_refl _) ?_ ?_)
    · rw [hv]; exact VR_fr (Map.add_same _ _ _)
    · intro k p hp hk
      simp only [addL, Bool.or_eq_false_iff, beq_eq_false_iff_ne] at hk
      have hne : p.id ≠ (D i).rid := fun e => hk.2 (g.k.ap_inj hp hap e)
      simp only [Map.add, if_neg hne]
      exact I.un k p hp hk.1
    · have hb1 : Beside ops l D (addL L i) (D i).rid ⟨i, (D i).rid, cs⟩ := by
        refine ⟨i, hap, rfl, by simp [addL], ?_⟩
        rintro ⟨k, k1, k2, k3⟩
        by_cases hki : k = i
        · subst hki; exact hncw k2
        · have hLk : L k = true := by simpa [addL, hki] using k1
          have := I.closed k hLk i k3
          rw [hi] at this; cases this
      have hX1 := g.k.XL_of hb1
      have hX2 : ∀ id, id ≠ (D i).rid → XL ops l D (addL L i) id = XL ops l D L id := by
        intro id hne
        refine g.k.XL_congr fun p => ⟨?_, ?_⟩
        · rintro ⟨k, a1, a2, a3, a4⟩
          have hk : k ≠ i := fun e => by
            subst e; rw [hap] at a1; cases a1; exact hne a2.symm
          exact ⟨k, a1, a2, by simpa [addL, hk] using a3, fun ⟨c, c1, c2, c3⟩ => a4 ⟨c, by simp [addL, c1], c2, c3⟩⟩
        · rintro ⟨k, a1, a2, a3, a4⟩
          refine ⟨k, a1, a2, by simp [addL, a3], fun ⟨c, c1, c2, c3⟩ => a4 ⟨c, ?_, c2, c3⟩⟩
          have hk : c ≠ i := fun e => by subst e; exact hncw c2
          simpa [addL, hk] using c1
      have hgone : (D j0).h.t.get (D i).rid = none := by
        cases hq : (D j0).h.t.get (D i).rid with
        | none => rfl
        | some b =>
          obtain ⟨m, hm, _⟩ := I.hr.blk _ _ (hov.at_ hq)
          rw [hid] at hm; cases hm
      refine ⟨j0, hj0, ?_, hov.nx, fun id => ?_, fun id b hidb => ?_⟩
      · rw [cnt_out, hcnt]
        rw [g.r.mem]
        rintro ⟨y, hy, hc'⟩
        rw [hx] at hy; cases hy; omega
      · by_cases hne : id = (D i).rid
        · subst hne
          simp only [PT.get_set, hgone, hX1]
          rfl
        · simp only [PT.get_set_ne _ _ _ _ (Ne.symm hne)]
          rw [hX2 id hne]; exact hov.get id
      · by_cases hne : id = (D i).rid
        · subst hne
          exact ⟨hgone, by rw [hov.nx]; exact hltn⟩
        · rw [hX2 id hne] at hidb; exact hov.low id b hidb
  | act hw hc hop rid pend hs fs =>
    have hcw : isCW l D i := ⟨x, hx, hc, hw⟩
    have hm := g.cw hcw
    obtain ⟨c1, c2⟩ := g.cnt_in I.closed hi hb hm
    have hheq : (D j0).h = (D i).h := g.h_eq hj0 (by omega) (hcnt.symm.trans c1)
    rw [hheq] at hov
    have hbl := g.below I.closed hi hb hm
    have hbl' : ∀ c, isCW l D c → L c = true → c < i := fun c h1 h2 => by
      have := hbl c (g.cw h1); rw [h2] at this; simpa using this.symm
    obtain ⟨y0, y1⟩ := g.XL_act I.closed hlt hi hx hb hcw hc
    have hov2 := g.need hlt hx hb hbl' hov y0 y1
    obtain ⟨H', r1, r2⟩ := hov2.opA hOH hOv hop
    unfold wpOp
    simp only [ho, wanted_ok I.tr hxg (hwant.trans hw), if_true]
    refine .inl (opA_ok hB hH hF hI hxo (h := H) (h' := H') (v := val i) (tm := tmL l val (D 0).tm L l.length) ?_ I.tr hgl I.hr ?_)
    · rw [opA_same sop]; exact r1
    · intro v' w' μ' q1 q2 q3
      refine hK H' μ' _ w' (I.next g hi hx hb hxd hxn q1 q2 (I.ext.trans q3) q3.le q3.nx ?_ ?_)
      · intro k p hp hk
        have hk' : L k = false := by
          simp only [addL, Bool.or_eq_false_iff] at hk; exact hk.1
        rw [q3.old p.id (Nat.lt_of_lt_of_le (g.id_hi hp) I.nx)]
        exact I.un k p hp hk'
      · exact ⟨i + 1, by omega, c2, r2⟩
  | read1 hw hc hlh h1 hop hh rid pend hs fs =>
    have hclo : x.lo ≤ cnt chain L := by
      rw [g.r.lo i x hx]; exact cnt_mono fun c _ h => hb c h
    have hchi : cnt chain L ≤ x.hi := by
      rw [g.r.hi i x hx]
      refine cnt_mono fun c _ h => ?_
      simp only [Bool.and_eq_true, bne_iff_ne, ne_eq, Bool.not_eq_true']
      refine ⟨fun e => (by subst e; rw [hi] at h; cases h), ?_⟩
      cases hbit : (pre ops c).testBit i with
      | false => rfl
      | true => have := I.closed c h i hbit; rw [hi] at this; cases this
    have hilo : x.lo ≤ cnt chain (fun c => decide (c < i)) := by
      rw [g.r.lo i x hx]
      refine cnt_mono fun c _ h => ?_
      have := pre_lt g.r.back i hlo h
      simpa using this
    have hihi : cnt chain (fun c => decide (c < i)) ≤ x.hi := by
      rw [g.r.hi i x hx]
      refine cnt_mono fun c hcm h => ?_
      have h : c < i := by simpa using h
      simp only [Bool.and_eq_true, bne_iff_ne, ne_eq, Bool.not_eq_true']
      refine ⟨by omega, ?_⟩
      cases hbit : (pre ops c).testBit i with
      | false => rfl
      | true => have := pre_lt g.r.back c (by omega) hbit; omega
    have hceq : cnt chain L = cnt chain (fun c => decide (c < i)) := by omega
    have hheq : (D j0).h = (D i).h := g.h_eq hj0 (by omega) (hcnt.symm.trans hceq)
    have hbl' : ∀ c, isCW l D c → L c = true → c < i := by
      intro c h1 h2
      apply Classical.byContradiction
      intro hge
      have hcm := g.cw h1
      have hne : c ≠ i := fun e => by subst e; rw [hi] at h2; cases h2
      have : cnt chain (fun c => decide (c < i)) < cnt chain L := by
        refine cnt_lt (fun c' hc' h => ?_) ⟨c, hcm, h2, by simpa using Nat.le_of_not_lt hge⟩
        have h : c' < i := by simpa using h
        exact chain_down I.closed g.r.ok g.r.sorted hc' hcm (by omega) h2
      omega
    rw [hheq] at hov
    have hov2 := g.need hlt hx hb hbl' hov (Y := fun id => open Classical in if ∃ p ∈ needs x.pre (D i).pend, p.id = id then none else XL ops l D L id)
      (fun p hp => by rw [if_pos ⟨p, hp, rfl⟩]) (fun id hin => by rw [if_neg (fun ⟨p, hp, e⟩ => hin p hp e)])
    obtain ⟨H1, r1, r2⟩ := hov2.evOp hop
    have e1 := evOp_cls1 hc r1
    subst e1
    exact plain (by omega) (by omega) (H1 := H1) (X := fun _ => none) hw r1
  | read hw hc hlh h1 hop hh rid pend hs fs =>
    have hclo : x.lo ≤ cnt chain L := by
      rw [g.r.lo i x hx]; exact cnt_mono fun c _ h => hb c h
    have hchi : cnt chain L ≤ x.hi := by
      rw [g.r.hi i x hx]
      refine cnt_mono fun c _ h => ?_
      simp only [Bool.and_eq_true, bne_iff_ne, ne_eq, Bool.not_eq_true']
      refine ⟨fun e => (by subst e; rw [hi] at h; cases h), ?_⟩
      cases hbit : (pre ops c).testBit i with
      | false => rfl
      | true => have := I.closed c h i hbit; rw [hi] at this; cases this
    have hmem : (⟨x.lo, x.hi, val i, x.op, (D i).tm⟩ : Fl) ∈ (D l.length).fs :=
      (g.k.suffix (i := i + 1) l.length (by omega) (Nat.le_refl _)).2 _ (by rw [fs]; simp)
    have hfl := (List.all_eq_true.1 g.fl) _ hmem
    have h2 := flOk_at hfl _ _ (g.h_at hj0)
    rw [Nat.zero_add, ← hcnt] at h2
    unfold flOk1 at h2
    dsimp only at h2
    rw [if_pos (by simp [hclo, hchi])] at h2
    split at h2
    · rename_i v hh' he
      have hv := same_eq h2
      subst hv
      obtain ⟨H1, r1, r2⟩ := hov.evOp he
      have e1 := evOp_cls1 hc r1
      subst e1
      exact plain (by omega) (by omega) (H1 := H1) (X := fun _ => none) hw r1
    · simp at h2
  | idle hw hc h1 hop hh rid pend hs fs =>
    exact plain (by omega) (by omega) (H1 := H) (X := fun _ => none) hw ((evOp_cls0 hc hop).2 H)
end
end Go.Ev
namespace Go.Ev
open Go Go.RowKit
variable {V : Vn} {P : Program} {gs : List Nat}
section
variable {E : Env} {ih : Run} {N : Nat} {ops : Array Oper} {l : List AOper} {chain : List Nat} {D : Nat → Dr} {val : Nat → AVal} {μ0 : Map} {h0 : Hp} {w0 : World}
theorem tmL_all {t : PT AVal} {L : Nat → Bool} : ∀ m, (∀ k, k < m → L k = true) → tmL l val t L m = tmL l val t (fun _ => true) m
  | 0, _ => rfl
  | m + 1, h => by
    simp only [tmL, h m (by omega), if_true]
    rw [tmL_all m (fun k hk => h k (by omega))]
theorem Inv.finish (g : Rgn P gs E ih N ops l chain D val h0) {L : Nat → Bool} {H : Hp} {μ : Map} {a : Act} {w : World} (I : Inv V N ops l chain D val μ0 h0 w0 L H μ a w) (hL : ∀ k, k < l.length → L k = true) :
    TR V μ (D l.length).tm a ∧ Sz N a ∧ a.defers = [] ∧ HR V μ { (D l.length).h with t := plus (D l.length).h.t (D l.length).pend } w ∧ Ext μ0 h0 w0 μ { (D l.length).h with t := plus (D l.length).h.t (D l.length).pend } w := by
  obtain ⟨j0, hj0, hcnt, hov⟩ := I.at_
  have hc2 : cnt chain L = cnt chain (fun c => decide (c < l.length)) := by
    refine cnt_congr fun c hc => ?_
    obtain ⟨x, hx, _⟩ := (g.r.mem c).1 hc
    have hlt := (List.getElem?_eq_some_iff.1 hx).1
    rw [hL c hlt]; simp [hlt]
  have hh : (D j0).h = (D l.length).h := g.h_eq hj0 (Nat.le_refl _) (hcnt.symm.trans hc2)
  rw [hh] at hov
  have hpend := fun p => g.k.pend g.r.pre g.r.rel.len g.r.back g.zp l.length (Nat.le_refl _) p
  have hbes : ∀ p, p ∈ (D l.length).pend ↔ Beside ops l D L p.id p := by
    intro p
    rw [hpend]
    constructor
    · rintro ⟨j, h1, h2, h3⟩
      refine ⟨j, h2, rfl, hL j h1, ?_⟩
      rintro ⟨c, c1, c2, c3⟩
      rw [h3 c (I.ltn c c1) c2] at c3; cases c3
    · rintro ⟨j, h1, h2, h3, h4⟩
      refine ⟨j, I.ltn j h3, h1, fun c hc hw => ?_⟩
      cases hbit : (pre ops c).testBit j with
      | false => rfl
      | true => exact absurd ⟨c, hL c hc, hw, hbit⟩ h4
  have hget : ∀ id, (plus (D l.length).h.t (D l.length).pend).get id = H.t.get id := by
    intro id
    rw [hov.get]
    by_cases hin : ∃ p ∈ (D l.length).pend, p.id = id
    · obtain ⟨p, hp, rfl⟩ := hin
      have hb := (hbes p).1 hp
      have hX := g.k.XL_of hb
      rw [plus_mem hp (fun q hq e => by
        have hq' := (hbes q).1 hq
        rw [e] at hq'
        exact g.k.beside_eq hq' hb), hX, (hov.low _ _ hX).1]
      rfl
    · have hin' : ∀ p ∈ (D l.length).pend, p.id ≠ id := fun p hp e => hin ⟨p, hp, e⟩
      rw [plus_not hin', XL_none (fun p hp => ?_)]
      · simp
      · have e : p.id = id := by obtain ⟨_, _, e, _⟩ := hp; exact e
        subst e
        exact hin' p ((hbes p).2 hp) rfl
  refine ⟨?_, I.sz, I.df, I.hr.same (H := { (D l.length).h with t := plus (D l.length).h.t (D l.length).pend }) hget hov.nx, I.ext.same (H := { (D l.length).h with t := plus (D l.length).h.t (D l.length).pend }) hget hov.nx⟩
  have := I.tr
  rw [tmL_all l.length (fun k hk => hL k hk), ← g.k.tm l.length (Nat.le_refl _)] at this
  exact this
/-- so many are not listed yet -/
def left (n : Nat) (L : Nat → Bool) : Nat := cnt (List.range n) (fun k => !L k)
theorem left_add {n i : Nat} {L : Nat → Bool} (hi : L i = false) (hlt : i < n) : left n (addL L i) < left n L := by
  refine cnt_lt (fun c _ h => ?_) ⟨i, by simp [hlt], by simp [hi], by simp [addL]⟩
  simp only [addL, Bool.not_eq_true', Bool.or_eq_false_iff] at h ⊢
  exact h.1
theorem left_zero {n : Nat} {L : Nat → Bool} (h : left n L = 0) : ∀ k, k < n → L k = true := by
  intro k hk
  unfold left cnt at h
  have h := List.eq_nil_of_length_eq_zero h
  rw [List.filter_eq_nil_iff] at h
  have := h k (by simp [hk])
  simpa using this
theorem least {n : Nat} {L : Nat → Bool} (h : ¬ ∀ k, k < n → L k = true) : ∃ k, k < n ∧ L k = false ∧ ∀ j, j < k → L j = true := by
  induction n with
  | zero => exact absurd (fun k hk => by omega) h
  | succ n ihn =>
    by_cases h1 : ∀ k, k < n → L k = true
    · refine ⟨n, by omega, ?_, h1⟩
      cases hn : L n with
      | false => rfl
      | true =>
        exact absurd (fun k hk => by
          by_cases e : k = n
          · rw [e]; exact hn
          · exact h1 k (by omega)) h
    · obtain ⟨k, a, b, c⟩ := ihn h1
      exact ⟨k, by omega, b, c⟩
theorem listed_add {n i : Nat} {A : Array Bool} (hs : A.size = n) (hlt : i < n) : (fun k => (A.setIfInBounds i true).getD k false) = addL (fun k => A.getD k false) i := by
  funext k
  simp only [addL, Array.getD_eq_getD_getElem?, Array.getElem?_setIfInBounds]
  by_cases e : i = k
  · subst e; simp [hs, hlt]
  · have : (k == i) = false := by simp; exact fun h => e h.symm
    simp [e, this]
theorem Inv.all (hB : BOk V E.bnds) (hH : HookOk V P gs E) (hF : FnsOk P gs E) (hOH : OvHook E) (hI : RunOk V P gs ih) (hOv : OvRun ih) (hg0 : GlOk gs μ0)
    (g : Rgn P gs E ih N ops l chain D val h0) {Q : Exit → Act → World → Prop}
    (hQ : ∀ a' w' μ', TR V μ' (D l.length).tm a' → Sz N a' → a'.defers = [] → HR V μ' { (D l.length).h with t := plus (D l.length).h.t (D l.length).pend } w' → Ext μ0 h0 w0 μ' { (D l.length).h with t := plus (D l.length).h.t (D l.length).pend } w' → Q .normal a' w') :
    ∀ (fuel : Nat) (A : Array Bool) (H : Hp) (μ : Map) (a : Act) (w : World), A.size = l.length → left l.length (fun k => A.getD k false) ≤ fuel → Inv V N ops l chain D val μ0 h0 w0 (fun k => A.getD k false) H μ a w → wpAny P .any ops Q fuel A a w
  | 0, A, H, μ, a, w, hs, hl, I => by
    have hall := left_zero (Nat.le_zero.1 hl)
    obtain ⟨q1, q2, q3, q4, q5⟩ := I.finish g hall
    refine ⟨?_, hQ a w μ q1 q2 q3 q4 q5⟩
    rw [List.eq_nil_iff_forall_not_mem]
    intro j hj
    obtain ⟨h1, o, ho, _⟩ := mem_ready.1 hj
    have hlt : j < ops.size := (Array.getElem?_eq_some_iff.1 ho).1
    have := hall j (by rw [g.r.rel.len]; exact hlt)
    have hA : j < A.size := by rw [hs, g.r.rel.len]; exact hlt
    simp only [Array.getD_eq_getD_getElem?] at this h1
    rw [Array.getElem?_eq_getElem hA] at this h1
    simp only [Option.getD_some] at this h1
    rw [this] at h1; cases h1
  | fuel + 1, A, H, μ, a, w, hs, hl, I => by
    refine ⟨fun hr => ?_, fun i hi => ?_⟩
    · have hall : ∀ k, k < l.length → A.getD k false = true := by
        apply Classical.byContradiction
        intro hn
        obtain ⟨k, k1, k2, k3⟩ := least hn
        have hk : k < ops.size := by rw [← g.r.rel.len]; exact k1
        have ho : ops[k]? = some ops[k] := by simp [hk]
        have : k ∈ Region.ready .any ops A := by
          refine mem_ready.2 ⟨?_, ops[k], ho, fun e he hb => k3 _ (edgesBack_spec g.r.back ho he hb)⟩
          have hA : k < A.size := by rw [hs]; exact k1
          simp only [Array.getD_eq_getD_getElem?] at k2 ⊢
          rw [Array.getElem?_eq_getElem hA] at k2 ⊢
          exact k2
        rw [hr] at this; simp at this
      obtain ⟨q1, q2, q3, q4, q5⟩ := I.finish g hall
      exact hQ a w μ q1 q2 q3 q4 q5
    · obtain ⟨h1, o, ho, hall⟩ := mem_ready.1 hi
      have hlt : i < ops.size := (Array.getElem?_eq_some_iff.1 ho).1
      have hll : i < l.length := by rw [g.r.rel.len]; exact hlt
      have hA : i < A.size := by rw [hs]; exact hll
      have hLi : A.getD i false = false := by
        simp only [Array.getD_eq_getD_getElem?] at h1 ⊢
        rw [Array.getElem?_eq_getElem hA] at h1 ⊢
        exact h1
      refine I.step hB hH hF hOH hI hOv hg0 g hLi hll (closed_bits I.closed ho hall) ?_
      intro H' μ' a' w' I'
      have heq := listed_add hs hll
      refine Inv.all hB hH hF hOH hI hOv hg0 g hQ fuel _ H' μ' a' w' (by simpa using hs) ?_ (by rw [heq]; exact I')
      rw [heq]
      have := left_add (n := l.length) (L := fun k => A.getD k false) hLi hll
      omega
end
/-- A region that draws. -/
theorem drawsOk {E : Env} {ih : Run} (hm : P.follows .mixedOrders = true) (hB : BOk V E.bnds) (hH : HookOk V P gs E) (hF : FnsOk P gs E) (hOH : OvHook E) (hI : RunOk V P gs ih) (hOv : OvRun ih) : DrawsOk V P gs E ih := by
  intro N id ops l tm h d μ a w Q hc hd hfl ht hs hdf hg k hQ
  obtain ⟨chain, hr⟩ := cRegion_reg hc
  obtain ⟨D, val, e0, en, hstep⟩ := drawRun_trc hd
  have g : Rgn P gs E ih N ops l chain D val h := by
    refine ⟨⟨fun i x hx => ?_⟩, hr, by rw [e0], by rw [e0], by rw [e0], by rw [e0], by rw [en]; exact hfl⟩
    have := hstep i x hx
    rwa [Nat.zero_add] at this
  refine wp_region_any hm ?_
  have k1 := k.drawn (w.drawn + 1)
  obtain ⟨k2, x2⟩ := k1.kept (keep_le l h.nx)
  have hL0 : (fun k => (Array.replicate ops.size false).getD k false) = fun _ => false := by
    funext k
    simp only [Array.getD_eq_getD_getElem?, Array.getElem?_replicate]
    split <;> rfl
  refine Inv.all (μ0 := μ) (h0 := h) (w0 := w) hB hH hF hOH hI hOv hg g ?_ ops.size _ { h with nx := keep l h.nx } μ a _ (by simp [hr.rel.len]) ?_ ?_
  · rw [en]; exact hQ
  · rw [hL0]
    unfold left cnt
    rw [hr.rel.len]
    exact Nat.le_trans (List.length_filter_le _ _) (by simp)
  · rw [hL0]
    refine ⟨fun i hi => (by cases hi), fun k hk => (by cases hk), ⟨0, Nat.zero_le _, ?_, ?_⟩, k2, ?_, ?_, hs, hdf, (Ext.drawn μ h w (w.drawn + 1)).trans x2, Nat.le_refl _⟩
    · unfold cnt; simp
    · rw [g.zh]
      have : ∀ id, XL ops l D (fun _ => false) id = none := fun id => XL_none (fun p ⟨_, _, _, h, _⟩ => by cases h)
      refine ⟨rfl, fun id => by rw [this]; simp, fun id b hb => by rw [this] at hb; cases hb⟩
    · intro k' p hp _
      exact k.fresh _ (g.id_lo hp)
    · have : ∀ m, tmL l val (D 0).tm (fun _ => false) m = (D 0).tm := by
        intro m
        induction m with
        | zero => rfl
        | succ m ihm => simp only [tmL]; cases l[m]? <;> simp [ihm]
      rw [this, e0]; exact ht
/-- The evaluator's run is the model's. -/
theorem exec_ok {E : Env} (hm : P.follows .mixedOrders = true) (hB : BOk V E.bnds) (hH : HookOk V P gs E) (hF : FnsOk P gs E) (hOH : OvHook E) : ∀ n, RunOk V P gs (exec E n)
  | 0 => fun N code c tm h ex tm' h' μ a w Q hc e => by simp [exec] at e
  | n + 1 => runOk_step hB hH hF (exec_ok hm hB hH hF hOH n) (drawsOk hm hB hH hF hOH (exec_ok hm hB hH hF hOH n) (ovRun_exec hOH n))
end Go.Ev
namespace Go.Ev
open Go Go.RowKit
variable {V : Vn} {P : Program} {gs : List Nat}
/-- the heap at the start: nothing of it is known -/
def hp0 : Hp := { t := .leaf, nx := .z }
def map0 : Map := fun _ => none
theorem HR.start (V : Vn) (w : World) : HR V map0 hp0 w :=
  ⟨fun id b e => by simp [hp0, PT.get] at e, fun i j a b l k e => by simp [hp0, PT.get] at e, fun _ _ => rfl, fun id l e => by simp [map0] at e⟩
theorem glOk_nil (μ : Map) : GlOk [] μ := fun g h => by simp at h
theorem Ext.below {w w' : World} {μ' : Map} {h' : Hp} (x : Ext map0 hp0 w μ' h' w') : Below w.heap.size w w' :=
  ⟨x.os, x.tape, x.output, x.size, fun k hk => (x.frame k hk (fun ⟨id, a, l, e, _⟩ => by simp [hp0, PT.get] at e)).1⟩
def isTrue : Option (AVal × Hp) → Bool
  | some (.bool true, _) => true
  | _ => false
theorem isTrue_spec {r : Option (AVal × Hp)} (h : isTrue r = true) : ∃ h', r = some (.bool true, h') := by
  unfold isTrue at h
  split at h
  · exact ⟨_, rfl⟩
  · simp at h
/-- A closed run of the evaluator is a law's word. -/
theorem law_run {E : Env} {n : Nat} {f : FuncId} {args : List AVal} {args' : Array Value} {w : World} (hm : P.follows .mixedOrders = true) (hB : BOk V E.bnds) (hH : HookOk V P [] E) (hF : FnsOk P [] E) (hOH : OvHook E)
    (ha : VRs V map0 args args'.toList) (e : isTrue (callA E (exec E n) f args hp0) = true) : Calls P f args' w fun e w' => e = .returned (.bool true) ∧ Below w.heap.size w w' := by
  obtain ⟨h', e⟩ := isTrue_spec e
  refine (callA_ok hH hF (exec_ok hm hB hH hF hOH n) e (HR.start V w) (glOk_nil _) ha).mono ?_
  rintro r w' ⟨v', μ', rfl, hv, _, x⟩
  exact ⟨by rw [VR_bool.1 hv], x.below⟩
/-- the functions, compiled as they are met -/
theorem fnsOk_of {E : Env} (h : E.fns = fun f => (P.funcs[f]?).bind (cFun P gs)) : FnsOk P gs E := by
  intro f af e
  rw [h] at e
  simp only [Option.bind_eq_some_iff] at e
  obtain ⟨fn, h1, h2⟩ := e
  exact ⟨fn, h1, h2⟩
end Go.Ev
