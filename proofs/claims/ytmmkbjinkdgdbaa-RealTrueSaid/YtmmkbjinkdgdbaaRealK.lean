/- The law RealTrue: the walk. -/
import Derived.Test.YtmmkbjinkdgdbaaRealI
import Derived.Test.YtmmkbjinkdgdbaaRealE
import Derived.Test.YtmmkbjinkdgdbaaPlainReal5
namespace Go.Proofs.Ytmmkbjinkdgdbaa
open Go.RowKit
set_option linter.unusedVariables false
set_option linter.unusedSimpArgs false
namespace RealN
theorem nanS_true (b : Nat) (hE : b / 2 ^ 23 % 2 ^ 8 = 255) (hF : 0 < b % 2 ^ 23) : RealS.nanW b = true := by
  have := fields b
  unfold RealS.nanW
  rw [decide_eq_true_eq]
  omega
theorem nanS_false (b : Nat) (h : b / 2 ^ 23 % 2 ^ 8 < 255 ∨ b % 2 ^ 23 = 0) : RealS.nanW b = false := by
  have := fields b
  have : b / 2 ^ 23 % 2 ^ 8 < 256 := Nat.mod_lt _ (by decide)
  unfold RealS.nanW
  rw [decide_eq_false_iff_not]
  omega
/-- the word of 64 bits with these parts -/
theorem rung_parts (N X G W : Nat) (hN : N < 2) (hX : X < 2048) (hG : G < 2 ^ 52) (hW : W = N * 2 ^ 63 + X * 2 ^ 52 + G) : RealO.rung W = X * 2 ^ 52 + G ∧ W / 2 ^ 63 % 2 = N ∧ W < 18446744073709551616 ∧ RealO.rung W / 2 ^ 52 = X ∧ RealO.rung W % 2 ^ 52 = G := by
  have h1 : RealO.rung W = X * 2 ^ 52 + G := by unfold RealO.rung; omega
  refine ⟨h1, by omega, by omega, ?_, ?_⟩
  · rw [h1]; omega
  · rw [h1]; omega
theorem b_parts (b : Nat) (hb : b < 4294967296) : b = b / 2 ^ 31 % 2 * 2 ^ 31 + (b / 2 ^ 23 % 2 ^ 8 * 2 ^ 23 + b % 2 ^ 23) := by omega
theorem b_zero (b : Nat) (hb : b < 4294967296) (h2 : b / 2 ^ 23 % 2 ^ 8 = 0) (h3 : b % 2 ^ 23 = 0) : b = b / 2 ^ 31 % 2 * 2 ^ 31 + 0 := by
  have e := b_parts b hb
  rw [h2, h3, Nat.zero_mul] at e
  exact e
theorem b_subn (b : Nat) (hb : b < 4294967296) (h2 : b / 2 ^ 23 % 2 ^ 8 = 0) : b = b / 2 ^ 31 % 2 * 2 ^ 31 + b % 2 ^ 23 := by
  have e := b_parts b hb
  rw [h2, Nat.zero_mul, Nat.zero_add] at e
  exact e
theorem b_inf (b : Nat) (hb : b < 4294967296) (h2 : b / 2 ^ 23 % 2 ^ 8 = 255) (h3 : b % 2 ^ 23 = 0) : b = b / 2 ^ 31 % 2 * 2 ^ 31 + 255 * 2 ^ 23 := by
  have e := b_parts b hb
  rw [h2, h3, Nat.add_zero] at e
  exact e
theorem w_zero (A : Nat) : A = A + 0 * 2 ^ 52 + 0 := by simp
/-- Widen's word is narrowed to what it was -/
theorem nar_parts (b N X G W v : Nat) (hN : N < 2) (hX : X < 2048) (hG : G < 2 ^ 52) (hW : W = N * 2 ^ 63 + X * 2 ^ 52 + G) (hb : b = N * 2 ^ 31 + v) (hv : mag X G = v) : nar W = b := by
  obtain ⟨h1, h2, h3, h4, h5⟩ := rung_parts N X G W hN hX hG hW
  unfold nar nm
  rw [h2, h4, h5, hv, hb]
theorem nanO_false (N X G W : Nat) (hN : N < 2) (hX : X < 2047 ∨ X = 2047 ∧ G = 0) (hG : G < 2 ^ 52) (hW : W = N * 2 ^ 63 + X * 2 ^ 52 + G) : RealO.nanW W = false := by
  obtain ⟨h1, h2, h3, h4, h5⟩ := rung_parts N X G W hN (by omega) hG hW
  unfold RealO.nanW
  rw [decide_eq_false_iff_not, h1]
  omega
theorem nanO_true (N G W : Nat) (hN : N < 2) (h0 : 0 < G) (hG : G < 2 ^ 52) (hW : W = N * 2 ^ 63 + 2047 * 2 ^ 52 + G) : RealO.nanW W = true := by
  obtain ⟨h1, h2, h3, h4, h5⟩ := rung_parts N 2047 G W hN (by omega) hG hW
  unfold RealO.nanW
  rw [decide_eq_true_eq, h1]
  omega
theorem sub_ex (F : Nat) (h0 : 0 < F) (hF : F < 2 ^ 23) : ∃ s H : Nat, 1 ≤ s ∧ s ≤ 23 ∧ F * 2 ^ s = 2 ^ 23 + H ∧ H < 2 ^ 23 := by
  obtain ⟨h1, h2⟩ := (Nat.log2_eq_iff (k := F.log2) (by omega)).1 rfl
  have h3 : F.log2 < 23 := by
    apply Nat.lt_of_not_le
    intro h
    have := Nat.pow_le_pow_right (n := 2) (by decide) h
    omega
  have e1 : 2 ^ F.log2 * 2 ^ (23 - F.log2) = 2 ^ 23 := by rw [← Nat.pow_add, show F.log2 + (23 - F.log2) = 23 by omega]
  have e2 : 2 ^ (F.log2 + 1) * 2 ^ (23 - F.log2) = 2 ^ 24 := by rw [← Nat.pow_add, show F.log2 + 1 + (23 - F.log2) = 24 by omega]
  have g1 := Nat.mul_le_mul_right (2 ^ (23 - F.log2)) h1
  have g2 := Nat.mul_lt_mul_of_pos_right h2 (Nat.pow_pos (n := 23 - F.log2) (show 0 < 2 by decide))
  rw [e1] at g1
  rw [e2] at g2
  exact ⟨23 - F.log2, F * 2 ^ (23 - F.log2) - 2 ^ 23, by omega, by omega, by omega, by omega⟩
theorem sub_le (F s t H K : Nat) (h1 : F * 2 ^ s = 2 ^ 23 + H) (h2 : F * 2 ^ t = 2 ^ 23 + K) (hK : K < 2 ^ 23) : t ≤ s := by
  apply Nat.le_of_not_lt
  intro h
  have e : F * 2 ^ t = F * 2 ^ s * 2 ^ (t - s) := by rw [Nat.mul_assoc, ← Nat.pow_add, show s + (t - s) = t by omega]
  have e2 : 2 ^ 1 ≤ 2 ^ (t - s) := Nat.pow_le_pow_right (by decide) (by omega)
  have := Nat.mul_le_mul_left (F * 2 ^ s) e2
  omega
theorem sub_one (F s t H K : Nat) (h1 : F * 2 ^ s = 2 ^ 23 + H) (hH : H < 2 ^ 23) (h2 : F * 2 ^ t = 2 ^ 23 + K) (hK : K < 2 ^ 23) : s = t ∧ H = K := by
  have a := sub_le F s t H K h1 h2 hK
  have b := sub_le F t s K H h2 h1 hH
  obtain rfl : s = t := by omega
  exact ⟨rfl, by omega⟩
theorem mag_inf (F : Nat) (h : F = 0) : mag 2047 (F * 2 ^ 29) = 255 * 2 ^ 23 := by subst h; decide
theorem mag_zero : mag 0 0 = 0 := by decide
end RealN
theorem True_nan (b W : Nat) (w : World) (ho : FloatKind.f32.format.order b b = none) (ho2 : FloatKind.f64.format.order W W = none)
    (hA : ∀ w, Calls Try.prog 34 #[.int .u32 b] w fun e w' => e = .returned (.int .u64 (W : Nat)) ∧ Below w.heap.size w w') :
    Calls Try.prog 8 #[.int .u32 (b : Nat)] w fun e w' => e = .returned (.bool true) ∧ Below w.heap.size w w' := by
  have hx := f32from b
  have hy := f64from W
  have HA := Lib.hid hA; clear hA
  go_enter Try.func8, Try.ntmps8
  go_wp2_with fail
  refine (halved_any _).mono ?_
  rintro e w1 ⟨rfl, hb1⟩
  go_wp2_with fail
  with_reducible refine (HA.out _).mono ?_
  rintro e w2 ⟨rfl, hb2⟩
  go_wp2_with fail
  go_ret
  exact ⟨rfl, hb1.trans (hb2.mono hb1.size)⟩
theorem True_real (b W : Nat) (w : World) (ho : FloatKind.f32.format.order b b = some .eq) (hc : floatToFloatBits .f32 b .f64 = some W)
    (hA : ∀ w, Calls Try.prog 34 #[.int .u32 b] w fun e w' => e = .returned (.int .u64 (W : Nat)) ∧ Below w.heap.size w w')
    (hB : ∀ w, Calls Try.prog 37 #[.int .u64 W] w fun e w' => e = .returned (.int .u32 (b : Nat)) ∧ Below w.heap.size w w') :
    Calls Try.prog 8 #[.int .u32 (b : Nat)] w fun e w' => e = .returned (.bool true) ∧ Below w.heap.size w w' := by
  have hx := f32from b
  have hy := f64bits W
  have hcv := fun w => run_convert_float_float (P := Try.prog) (w := w) 51 55 .f32 .f64 b W (by kernel_rfl) (by kernel_rfl) hc
  clear hc
  have HA := Lib.hid hA; clear hA
  have HB := Lib.hid hB; clear hB
  go_enter Try.func8, Try.ntmps8
  go_wp2_with fail
  refine (halved_any _).mono ?_
  rintro e w1 ⟨rfl, hb1⟩
  go_wp2_with fail
  with_reducible refine (HA.out _).mono ?_
  rintro e w2 ⟨rfl, hb2⟩
  go_wp2_with fail
  with_reducible refine (HB.out _).mono ?_
  rintro e w3 ⟨rfl, hb3⟩
  go_wp2_with fail
  go_ret
  exact ⟨rfl, (hb1.trans (hb2.mono hb1.size)).trans (hb3.mono (Nat.le_trans hb1.size hb2.size))⟩
set_option maxRecDepth 100000 in
theorem RealTrue_walk (b : Nat) (hb : b < 4294967296) (w : World) :
    Calls Try.prog 8 #[.int .u32 (b : Nat)] w fun e w' => e = .returned (.bool true) ∧ Below w.heap.size w w' := by
  have hE : b / 2 ^ 23 % 2 ^ 8 < 256 := Nat.mod_lt _ (by omega)
  have hF : b % 2 ^ 23 < 2 ^ 23 := Nat.mod_lt _ (by omega)
  have hN : b / 2 ^ 31 % 2 < 2 := Nat.mod_lt _ (by omega)
  have hbp := RealN.b_parts b hb
  have refl : RealS.nanW b = false → FloatKind.f32.format.order b b = some .eq := fun h => by
    have := RealS.order_ext b b h h
    rw [show FloatKind.f32.format = Ieee.single from rfl, this]; simp
  rcases Nat.lt_or_ge (b / 2 ^ 23 % 2 ^ 8) 255 with h1 | h1
  · rcases Nat.eq_zero_or_pos (b / 2 ^ 23 % 2 ^ 8) with h2 | h2
    · rcases Nat.eq_zero_or_pos (b % 2 ^ 23) with h3 | h3
      · have hW : b / 2 ^ 31 % 2 * 2 ^ 63 + 0 * 2 ^ 52 + 0 = b / 2 ^ 31 % 2 * 2 ^ 63 + 0 * 2 ^ 52 + 0 := rfl
        have hp := RealN.rung_parts _ 0 0 _ hN (by omega) (by omega) hW
        have hn := RealN.nanO_false _ 0 0 _ hN (.inl (by omega)) (by omega) hW
        have hnar := RealN.nar_parts b _ 0 0 _ 0 hN (by omega) (by omega) hW (RealN.b_zero b hb h2 h3) RealN.mag_zero
        refine True_real b _ w (refl (RealN.nanS_false b (.inl h1))) (by rw [RealN.conv_zero b h2 h3]; exact congrArg some (RealN.w_zero _)) (fun w => Widen_zero b w hb h2 h3) (fun w => ?_)
        have := Narrow_any _ w hp.2.2.1 hn
        rw [hnar] at this
        exact this
      · obtain ⟨s, H, s1, s2, hs, hH⟩ := RealN.sub_ex _ h3 hF
        have hG : H * 2 ^ 29 < 2 ^ 52 := by omega
        have hW : b / 2 ^ 31 % 2 * 2 ^ 63 + (897 - s) * 2 ^ 52 + H * 2 ^ 29 = b / 2 ^ 31 % 2 * 2 ^ 63 + (897 - s) * 2 ^ 52 + H * 2 ^ 29 := rfl
        have hp := RealN.rung_parts _ (897 - s) (H * 2 ^ 29) _ hN (by omega) hG hW
        have hn := RealN.nanO_false _ (897 - s) (H * 2 ^ 29) _ hN (.inl (by omega)) hG hW
        have hnar := RealN.nar_parts b _ (897 - s) (H * 2 ^ 29) _ (b % 2 ^ 23) hN (by omega) hG hW (RealN.b_subn b hb h2) (RealN.mag_sub s H _ s1 s2 hs)
        refine True_real b _ w (refl (RealN.nanS_false b (.inl h1))) (RealN.conv_sub b s H h2 h3 s2 hs hH) (fun w => (Widen_sub b w hb h2 h3).mono ?_) (fun w => ?_)
        · rintro e w' ⟨t, K, t1, ht, hK, he, hb'⟩
          obtain ⟨rfl, rfl⟩ := RealN.sub_one _ _ _ _ _ hs hH ht hK
          exact ⟨he, hb'⟩
        · have := Narrow_any _ w hp.2.2.1 hn
          rw [hnar] at this
          exact this
    · have hG : b % 2 ^ 23 * 2 ^ 29 < 2 ^ 52 := by omega
      have hW : b / 2 ^ 31 % 2 * 2 ^ 63 + (b / 2 ^ 23 % 2 ^ 8 + 896) * 2 ^ 52 + b % 2 ^ 23 * 2 ^ 29 = b / 2 ^ 31 % 2 * 2 ^ 63 + (b / 2 ^ 23 % 2 ^ 8 + 896) * 2 ^ 52 + b % 2 ^ 23 * 2 ^ 29 := rfl
      have hp := RealN.rung_parts _ (b / 2 ^ 23 % 2 ^ 8 + 896) (b % 2 ^ 23 * 2 ^ 29) _ hN (by omega) hG hW
      have hn := RealN.nanO_false _ (b / 2 ^ 23 % 2 ^ 8 + 896) (b % 2 ^ 23 * 2 ^ 29) _ hN (.inl (by omega)) hG hW
      have hnar := RealN.nar_parts b _ (b / 2 ^ 23 % 2 ^ 8 + 896) (b % 2 ^ 23 * 2 ^ 29) _ (b / 2 ^ 23 % 2 ^ 8 * 2 ^ 23 + b % 2 ^ 23) hN (by omega) hG hW hbp (RealN.mag_norm _ _ h2 h1 hF)
      refine True_real b _ w (refl (RealN.nanS_false b (.inl h1))) (RealN.conv_norm b _ rfl h2 h1) (fun w => Widen_norm b _ w hb rfl h2 h1) (fun w => ?_)
      have := Narrow_any _ w hp.2.2.1 hn
      rw [hnar] at this
      exact this
  · have h255 : b / 2 ^ 23 % 2 ^ 8 = 255 := by omega
    have hG : b % 2 ^ 23 * 2 ^ 29 < 2 ^ 52 := by omega
    have hW : b / 2 ^ 31 % 2 * 2 ^ 63 + 2047 * 2 ^ 52 + b % 2 ^ 23 * 2 ^ 29 = b / 2 ^ 31 % 2 * 2 ^ 63 + 2047 * 2 ^ 52 + b % 2 ^ 23 * 2 ^ 29 := rfl
    rcases Nat.eq_zero_or_pos (b % 2 ^ 23) with h3 | h3
    · have hp := RealN.rung_parts _ 2047 (b % 2 ^ 23 * 2 ^ 29) _ hN (by omega) hG hW
      have hn := RealN.nanO_false _ 2047 (b % 2 ^ 23 * 2 ^ 29) _ hN (.inr ⟨rfl, by rw [h3]⟩) hG hW
      have hnar := RealN.nar_parts b _ 2047 (b % 2 ^ 23 * 2 ^ 29) _ (255 * 2 ^ 23) hN (by omega) hG hW (RealN.b_inf b hb h255 h3) (RealN.mag_inf _ h3)
      refine True_real b _ w (refl (RealN.nanS_false b (.inr h3))) (RealN.conv_inf b h255 h3) (fun w => Widen_inf b w hb h255) (fun w => ?_)
      have := Narrow_any _ w hp.2.2.1 hn
      rw [hnar] at this
      exact this
    · have hn := RealN.nanO_true _ (b % 2 ^ 23 * 2 ^ 29) _ hN (by omega) hG hW
      refine True_nan b _ w (RealS.order_nan b b (.inl (RealN.nanS_true b h255 h3))) (RealO.order_nan _ _ (.inl hn)) (fun w => Widen_inf b w hb h255)
end Go.Proofs.Ytmmkbjinkdgdbaa
