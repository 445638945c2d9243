/-
  LAYER 6, PLAIN: what was sealed is opened, while it lives. It speaks of no program.
-/
import Derived.Test.YtaieajfgcnaedaaDoorCookA
set_option linter.unusedVariables false
set_option linter.unusedSimpArgs false
namespace Go.Proofs.YtaieajfgcnaedaaDoor
open Go.RowKit

theorem drop_take_at (xs ys : List Int) (n : Nat) (zs : List Int) (h : ys.length = n) : ((xs ++ (ys ++ zs)).drop xs.length).take n = ys := by
  rw [List.drop_left, List.take_left' h]
theorem numAt_mid (xs ys zs : List Int) (p n : Nat) (hp : xs.length = p) (hn : ys.length = n) : numAt (xs ++ (ys ++ zs)) p n = numI ys := by
  unfold numAt
  rw [← hp, drop_take_at xs ys n zs hn]
/-- What the 52 bytes say is the cookie again. -/
theorem num_seal (c : Ck) (hm : c.may) (hk : c.Ok) (zs : List Int) : ckOf (c.plain ++ zs) = c ∧ numAt (c.plain ++ zs) 48 4 = 0 := by
  obtain ⟨made, life, port, pport, tag, ptag, tsn, ptsn, room, outs, ins, addr, other⟩ := c
  obtain ⟨a1, a2, a3, a4⟩ := hm
  obtain ⟨b1, b2, b3, b4, b5, b6, b7, b8, b9, b10, b11⟩ := hk
  simp only at a1 a2 a3 a4 b1 b2 b3 b4 b5 b6 b7 b8 b9 b10 b11
  have p8 : (256 : Int) ^ 8 = 18446744073709551616 := rfl
  have p4 : (256 : Int) ^ 4 = 4294967296 := rfl
  have p2 : (256 : Int) ^ 2 = 65536 := rfl
  have n0 : numI (be made 8) = made := numI_be 8 made a1 (by rw [p8]; omega)
  have n1 : numI (be life 4) = life := numI_be 4 life a3 (by rw [p4]; omega)
  have n2 : numI (be port 2) = port := numI_be 2 port b1.1 (by rw [p2]; omega)
  have n3 : numI (be pport 2) = pport := numI_be 2 pport b2.1 (by rw [p2]; omega)
  have n4 : numI (be tag 4) = tag := numI_be 4 tag b3.1 (by rw [p4]; omega)
  have n5 : numI (be ptag 4) = ptag := numI_be 4 ptag b4.1 (by rw [p4]; omega)
  have n6 : numI (be tsn 4) = tsn := numI_be 4 tsn b5.1 (by rw [p4]; omega)
  have n7 : numI (be ptsn 4) = ptsn := numI_be 4 ptsn b6.1 (by rw [p4]; omega)
  have n8 : numI (be room 4) = room := numI_be 4 room b7.1 (by rw [p4]; omega)
  have n9 : numI (be outs 2) = outs := numI_be 2 outs b8.1 (by rw [p2]; omega)
  have n10 : numI (be ins 2) = ins := numI_be 2 ins b9.1 (by rw [p2]; omega)
  have n11 : numI (be addr 4) = addr := numI_be 4 addr b10.1 (by rw [p4]; omega)
  have n12 : numI (be other 4) = other := numI_be 4 other b11.1 (by rw [p4]; omega)
  have n13 : numI (be 0 4) = 0 := numI_be 4 0 (by omega) (by rw [p4]; omega)
  have l2 : ∀ v, (be v 2).length = 2 := fun v => be_length v 2
  have l4 : ∀ v, (be v 4).length = 4 := fun v => be_length v 4
  have l8 : ∀ v, (be v 8).length = 8 := fun v => be_length v 8
  have e : ∀ (p n : Nat) (xs ys ws : List Int), (Ck.mk made life port pport tag ptag tsn ptsn room outs ins addr other).plain ++ zs = xs ++ (ys ++ ws) → xs.length = p → ys.length = n → numAt ((Ck.mk made life port pport tag ptag tsn ptsn room outs ins addr other).plain ++ zs) p n = numI ys := fun p n xs ys ws h hp hn => by rw [h]; exact numAt_mid xs ys ws p n hp hn
  have f0 := e 0 8 [] (be made 8) (be life 4 ++ (be port 2 ++ (be pport 2 ++ (be tag 4 ++ (be ptag 4 ++ (be tsn 4 ++ (be ptsn 4 ++ (be room 4 ++ (be outs 2 ++ (be ins 2 ++ (be addr 4 ++ (be other 4 ++ (be 0 4 ++ zs))))))))))))) (by simp [Ck.plain, List.append_assoc]) rfl (l8 _)
  have f1 := e 8 4 (be made 8) (be life 4) ((be port 2 ++ (be pport 2 ++ (be tag 4 ++ (be ptag 4 ++ (be tsn 4 ++ (be ptsn 4 ++ (be room 4 ++ (be outs 2 ++ (be ins 2 ++ (be addr 4 ++ (be other 4 ++ (be 0 4 ++ zs))))))))))))) (by simp [Ck.plain, List.append_assoc]) (l8 _) (l4 _)
  have f2 := e 12 2 (be made 8 ++ be life 4) (be port 2) ((be pport 2 ++ (be tag 4 ++ (be ptag 4 ++ (be tsn 4 ++ (be ptsn 4 ++ (be room 4 ++ (be outs 2 ++ (be ins 2 ++ (be addr 4 ++ (be other 4 ++ (be 0 4 ++ zs)))))))))))) (by simp [Ck.plain, List.append_assoc]) (by simp [l2, l4, l8]) (l2 _)
  have f3 := e 14 2 (be made 8 ++ be life 4 ++ be port 2) (be pport 2) ((be tag 4 ++ (be ptag 4 ++ (be tsn 4 ++ (be ptsn 4 ++ (be room 4 ++ (be outs 2 ++ (be ins 2 ++ (be addr 4 ++ (be other 4 ++ (be 0 4 ++ zs))))))))))) (by simp [Ck.plain, List.append_assoc]) (by simp [l2, l4, l8]) (l2 _)
  have f4 := e 16 4 (be made 8 ++ be life 4 ++ be port 2 ++ be pport 2) (be tag 4) ((be ptag 4 ++ (be tsn 4 ++ (be ptsn 4 ++ (be room 4 ++ (be outs 2 ++ (be ins 2 ++ (be addr 4 ++ (be other 4 ++ (be 0 4 ++ zs)))))))))) (by simp [Ck.plain, List.append_assoc]) (by simp [l2, l4, l8]) (l4 _)
  have f5 := e 20 4 (be made 8 ++ be life 4 ++ be port 2 ++ be pport 2 ++ be tag 4) (be ptag 4) ((be tsn 4 ++ (be ptsn 4 ++ (be room 4 ++ (be outs 2 ++ (be ins 2 ++ (be addr 4 ++ (be other 4 ++ (be 0 4 ++ zs))))))))) (by simp [Ck.plain, List.append_assoc]) (by simp [l2, l4, l8]) (l4 _)
  have f6 := e 24 4 (be made 8 ++ be life 4 ++ be port 2 ++ be pport 2 ++ be tag 4 ++ be ptag 4) (be tsn 4) ((be ptsn 4 ++ (be room 4 ++ (be outs 2 ++ (be ins 2 ++ (be addr 4 ++ (be other 4 ++ (be 0 4 ++ zs)))))))) (by simp [Ck.plain, List.append_assoc]) (by simp [l2, l4, l8]) (l4 _)
  have f7 := e 28 4 (be made 8 ++ be life 4 ++ be port 2 ++ be pport 2 ++ be tag 4 ++ be ptag 4 ++ be tsn 4) (be ptsn 4) ((be room 4 ++ (be outs 2 ++ (be ins 2 ++ (be addr 4 ++ (be other 4 ++ (be 0 4 ++ zs))))))) (by simp [Ck.plain, List.append_assoc]) (by simp [l2, l4, l8]) (l4 _)
  have f8 := e 32 4 (be made 8 ++ be life 4 ++ be port 2 ++ be pport 2 ++ be tag 4 ++ be ptag 4 ++ be tsn 4 ++ be ptsn 4) (be room 4) ((be outs 2 ++ (be ins 2 ++ (be addr 4 ++ (be other 4 ++ (be 0 4 ++ zs)))))) (by simp [Ck.plain, List.append_assoc]) (by simp [l2, l4, l8]) (l4 _)
  have f9 := e 36 2 (be made 8 ++ be life 4 ++ be port 2 ++ be pport 2 ++ be tag 4 ++ be ptag 4 ++ be tsn 4 ++ be ptsn 4 ++ be room 4) (be outs 2) ((be ins 2 ++ (be addr 4 ++ (be other 4 ++ (be 0 4 ++ zs))))) (by simp [Ck.plain, List.append_assoc]) (by simp [l2, l4, l8]) (l2 _)
  have f10 := e 38 2 (be made 8 ++ be life 4 ++ be port 2 ++ be pport 2 ++ be tag 4 ++ be ptag 4 ++ be tsn 4 ++ be ptsn 4 ++ be room 4 ++ be outs 2) (be ins 2) ((be addr 4 ++ (be other 4 ++ (be 0 4 ++ zs)))) (by simp [Ck.plain, List.append_assoc]) (by simp [l2, l4, l8]) (l2 _)
  have f11 := e 40 4 (be made 8 ++ be life 4 ++ be port 2 ++ be pport 2 ++ be tag 4 ++ be ptag 4 ++ be tsn 4 ++ be ptsn 4 ++ be room 4 ++ be outs 2 ++ be ins 2) (be addr 4) ((be other 4 ++ (be 0 4 ++ zs))) (by simp [Ck.plain, List.append_assoc]) (by simp [l2, l4, l8]) (l4 _)
  have f12 := e 44 4 (be made 8 ++ be life 4 ++ be port 2 ++ be pport 2 ++ be tag 4 ++ be ptag 4 ++ be tsn 4 ++ be ptsn 4 ++ be room 4 ++ be outs 2 ++ be ins 2 ++ be addr 4) (be other 4) ((be 0 4 ++ zs)) (by simp [Ck.plain, List.append_assoc]) (by simp [l2, l4, l8]) (l4 _)
  have f13 := e 48 4 (be made 8 ++ be life 4 ++ be port 2 ++ be pport 2 ++ be tag 4 ++ be ptag 4 ++ be tsn 4 ++ be ptsn 4 ++ be room 4 ++ be outs 2 ++ be ins 2 ++ be addr 4 ++ be other 4) (be 0 4) zs (by simp [Ck.plain, List.append_assoc]) (by simp [l2, l4, l8]) (l4 _)
  refine ⟨?_, by rw [f13, n13]⟩
  unfold ckOf
  rw [f0, f1, f2, f3, f4, f5, f6, f7, f8, f9, f10, f11, f12, n0, n1, n2, n3, n4, n5, n6, n7, n8, n9, n10, n11, n12]
/-- What was sealed is opened, while it lives. -/
theorem open_seal (sec frm : List Int) (two : Bool) (c : Ck) (hm : c.may) (hk : c.Ok) (now : Int) : ckOpen sec frm two (c.seal sec) now = if now < 0 ∨ 1099511627776 < now then (Ck.none, 2) else if now < c.made ∨ c.made + c.life < now then (Ck.none, 8) else (c, 0) := by
  obtain ⟨h1, h2⟩ := num_seal c hm hk (mac sec c.plain)
  have t : (c.seal sec).take 52 = c.plain := by unfold Ck.seal; exact List.take_left' (Ck.plain_len c)
  have d : (c.seal sec).drop 52 = mac sec c.plain := by unfold Ck.seal; rw [← Ck.plain_len c]; exact List.drop_left
  have hmade : numAt (c.plain ++ mac sec c.plain) 0 8 = c.made := congrArg Ck.made h1
  have hlife : numAt (c.plain ++ mac sec c.plain) 8 4 = c.life := congrArg Ck.life h1
  unfold ckOpen
  rw [t, d, Ck.seal_len]
  show (if now < 0 ∨ 1099511627776 < now then (Ck.none, 2) else if 84 ≠ 84 then (Ck.none, 4) else if ¬ (mac sec c.plain = mac sec c.plain ∨ (mac frm c.plain = mac sec c.plain ∧ two = true)) then (Ck.none, 5) else if numAt (c.plain ++ mac sec c.plain) 48 4 ≠ 0 then (Ck.none, 4) else if 1099511627776 < numAt (c.plain ++ mac sec c.plain) 0 8 ∨ 600 < numAt (c.plain ++ mac sec c.plain) 8 4 then (Ck.none, 6) else if now < numAt (c.plain ++ mac sec c.plain) 0 8 ∨ numAt (c.plain ++ mac sec c.plain) 0 8 + numAt (c.plain ++ mac sec c.plain) 8 4 < now then (Ck.none, 8) else (ckOf (c.plain ++ mac sec c.plain), 0)) = _
  rw [h1, h2, hmade, hlife]
  obtain ⟨a1, a2, a3, a4⟩ := hm
  have g1 : ¬ (1099511627776 < c.made ∨ 600 < c.life) := by omega
  simp [g1]
end Go.Proofs.YtaieajfgcnaedaaDoor
