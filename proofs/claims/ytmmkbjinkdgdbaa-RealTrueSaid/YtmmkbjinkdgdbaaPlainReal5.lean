/- A real of 32 bits as one of 64: what the model writes for it is what Widen makes. No program in sight. -/
import Derived.Test.YtmmkbjinkdgdbaaPlainReal4
import Derived.Laws.FloatArith
namespace Go.Proofs.Ytmmkbjinkdgdbaa
namespace RealN
open Ieee
theorem nearest_double (neg : Bool) (m L : Nat) (place : Int) (hm : m ≠ 0) (hL : m.log2 = L) (h52 : L ≤ 52) (hp : -1074 ≤ place + L - 52) :
    double.nearest neg m place = double.word neg (min ((place + L - 52 + 1074).toNat * 2 ^ 52 + m * 2 ^ (52 - L)) (2047 * 2 ^ 52)) := by
  unfold Format.nearest
  rw [if_neg hm, hL]
  have e1 : double.leastPlace = -1074 := rfl
  have e2 : (double.fractionBits : Int) = 52 := rfl
  have e3 : double.binade = 2 ^ 52 := rfl
  have e4 : double.infRung = 2047 * 2 ^ 52 := rfl
  rw [e1, e2, e3, e4]
  have e5 : max (place + (L : Int) - 52) (-1074) = place + L - 52 := by omega
  have e6 : (place - (place + (L : Int) - 52)).toNat = 52 - L := by omega
  have e7 : ((place + (L : Int) - 52) - place).toNat = 0 := by omega
  simp only [e5, e6, e7]
  have e8 : (place + (L : Int) - 52 - -1074).toNat = (place + L - 52 + 1074).toNat := by omega
  rw [e8]
  have e9 : Toward.even.cut neg (m <<< (52 - L)) 0 = m * 2 ^ (52 - L) := by
    unfold Toward.cut
    simp [Nat.shiftLeft_eq, Nat.mod_one]
  rw [e9]
theorem word_read (neg : Bool) (r : Nat) (h : r < 2047 * 2 ^ 52) : (double.read (double.word neg r)).isInfinity = false := by
  have e1 : double.signWeight = 2 ^ 63 := rfl
  have e2 : double.binade = 2 ^ 52 := rfl
  have e4 : double.infRung = 2047 * 2 ^ 52 := rfl
  have hw : double.word neg r % 2 ^ 63 = r := by
    unfold Format.word
    rw [e1]
    split <;> omega
  unfold Format.read
  rw [e1, e2, e4, hw]
  simp only
  split
  · rfl
  · rfl
theorem word_eq (neg : Bool) (r : Nat) : double.word neg r = (if neg then 2 ^ 63 else 0) + r := by
  unfold Format.word
  rw [show double.signWeight = 2 ^ 63 from rfl]
  cases neg <;> simp
theorem read_single (w : Nat) : single.read w = if RealS.rung w < 2 ^ 23 then .number (RealS.negW w) (RealS.rung w) (-149) else if RealS.rung w < 255 * 2 ^ 23 then .number (RealS.negW w) (2 ^ 23 + RealS.rung w % 2 ^ 23) (-149 + (RealS.rung w / 2 ^ 23 - 1 : Nat)) else if RealS.rung w = 255 * 2 ^ 23 then .infinity (RealS.negW w) else .nan (RealS.negW w) (RealS.rung w - 255 * 2 ^ 23) := rfl
theorem neg_eq (b : Nat) : (if RealS.negW b then 2 ^ 63 else 0) = b / 2 ^ 31 % 2 * 2 ^ 63 := by
  unfold RealS.negW
  have h2 : b / 2 ^ 31 % 2 < 2 := Nat.mod_lt _ (by decide)
  generalize b / 2 ^ 31 % 2 = N at *
  have : N = 0 ∨ N = 1 := by omega
  rcases this with rfl | rfl <;> rfl
theorem word_neg (b r : Nat) : double.word (RealS.negW b) r = b / 2 ^ 31 % 2 * 2 ^ 63 + r := by rw [word_eq, neg_eq]
theorem fields (b : Nat) : RealS.rung b = b / 2 ^ 23 % 2 ^ 8 * 2 ^ 23 + b % 2 ^ 23 := by
  unfold RealS.rung; omega
theorem enc_eq (neg : Bool) (m : Nat) (p : Int) : FloatKind.f64.encode (.number neg m p) = double.nearest neg m p := rfl
theorem arith_sub (u v H : Nat) (hu : u ≤ 896) (hv : v = u + 1) (hH : H < 2 ^ 23) : min (u * 2 ^ 52 + (2 ^ 52 + H * 2 ^ 29)) (2047 * 2 ^ 52) = v * 2 ^ 52 + H * 2 ^ 29 := by omega
theorem arith_lt (v H : Nat) (hv : v ≤ 897) (hH : H < 2 ^ 23) : v * 2 ^ 52 + H * 2 ^ 29 < 2047 * 2 ^ 52 := by omega
theorem arith_e2 (H : Nat) : (2 ^ 23 + H) * 2 ^ 29 = 2 ^ 52 + H * 2 ^ 29 := by omega
theorem conv_norm (b E : Nat) (hE : b / 2 ^ 23 % 2 ^ 8 = E) (h0 : 0 < E) (h1 : E < 255) :
    floatToFloatBits .f32 b .f64 = some (b / 2 ^ 31 % 2 * 2 ^ 63 + (E + 896) * 2 ^ 52 + b % 2 ^ 23 * 2 ^ 29) := by
  have hr := fields b
  rw [hE] at hr
  have hF : b % 2 ^ 23 < 2 ^ 23 := Nat.mod_lt _ (by decide)
  generalize b % 2 ^ 23 = F at *
  have hrd : FloatKind.f32.decode b = .number (RealS.negW b) (2 ^ 23 + F) (-149 + (E - 1 : Nat)) := by
    show single.read b = _
    rw [read_single, hr, if_neg (by omega), if_pos (by omega), show (E * 2 ^ 23 + F) % 2 ^ 23 = F by omega, show (E * 2 ^ 23 + F) / 2 ^ 23 = E by omega]
  have hL : (2 ^ 23 + F).log2 = 23 := (Nat.log2_eq_iff (by omega)).2 ⟨by omega, by omega⟩
  have hen : FloatKind.f64.encode (.number (RealS.negW b) (2 ^ 23 + F) (-149 + (E - 1 : Nat))) = double.word (RealS.negW b) ((E + 896) * 2 ^ 52 + F * 2 ^ 29) := by
    rw [enc_eq]
    rw [nearest_double _ _ 23 _ (by omega) hL (by decide) (by omega)]
    refine congrArg _ ?_
    have : (-149 + ((E - 1 : Nat) : Int) + ((23 : Nat) : Int) - 52 + 1074).toNat = E + 895 := by omega
    rw [this]
    omega
  unfold floatToFloatBits
  rw [if_neg (by decide), hrd]
  simp only
  rw [hen]
  have hni : (FloatKind.f64.decode (double.word (RealS.negW b) ((E + 896) * 2 ^ 52 + F * 2 ^ 29))).isInfinity = false := word_read _ _ (by omega)
  rw [hni, if_neg (by simp)]
  exact congrArg some ((word_neg b _).trans (Nat.add_assoc _ _ _).symm)
theorem conv_inf (b : Nat) (hE : b / 2 ^ 23 % 2 ^ 8 = 255) (hF : b % 2 ^ 23 = 0) :
    floatToFloatBits .f32 b .f64 = some (b / 2 ^ 31 % 2 * 2 ^ 63 + 2047 * 2 ^ 52 + b % 2 ^ 23 * 2 ^ 29) := by
  have hr := fields b
  rw [hE, hF] at hr
  rw [hF]
  have hrd : FloatKind.f32.decode b = .infinity (RealS.negW b) := by
    show single.read b = _
    rw [read_single, hr, if_neg (by decide), if_neg (by decide), if_pos rfl]
  unfold floatToFloatBits
  rw [if_neg (by decide), hrd]
  simp only
  have he : FloatKind.f64.encode (.infinity (RealS.negW b)) = double.word (RealS.negW b) (2047 * 2 ^ 52) := rfl
  rw [he]
  have hw := word_neg b (2047 * 2 ^ 52)
  exact congrArg some (by omega)
theorem conv_zero (b : Nat) (hE : b / 2 ^ 23 % 2 ^ 8 = 0) (hF : b % 2 ^ 23 = 0) :
    floatToFloatBits .f32 b .f64 = some (b / 2 ^ 31 % 2 * 2 ^ 63) := by
  have hr := fields b
  rw [hE, hF] at hr
  have hrd : FloatKind.f32.decode b = .number (RealS.negW b) 0 (-149) := by
    show single.read b = _
    rw [read_single, hr, if_pos (by decide)]
  unfold floatToFloatBits
  rw [if_neg (by decide), hrd]
  simp only
  have hen : FloatKind.f64.encode (.number (RealS.negW b) 0 (-149)) = double.word (RealS.negW b) 0 := by
    rw [enc_eq]
    unfold Format.nearest
    rw [if_pos rfl]
  rw [hen]
  have hni : (FloatKind.f64.decode (double.word (RealS.negW b) 0)).isInfinity = false := word_read _ _ (by decide)
  rw [hni, if_neg (by simp)]
  exact congrArg some ((word_neg b 0).trans (Nat.add_zero _))
theorem conv_sub (b s H : Nat) (hE : b / 2 ^ 23 % 2 ^ 8 = 0) (hF0 : 0 < b % 2 ^ 23) (hs : s ≤ 23) (h : b % 2 ^ 23 * 2 ^ s = 2 ^ 23 + H) (hH : H < 2 ^ 23) :
    floatToFloatBits .f32 b .f64 = some (b / 2 ^ 31 % 2 * 2 ^ 63 + (897 - s) * 2 ^ 52 + H * 2 ^ 29) := by
  have hr := fields b
  rw [hE] at hr
  have hF : b % 2 ^ 23 < 2 ^ 23 := Nat.mod_lt _ (by decide)
  generalize b % 2 ^ 23 = F at *
  have hrd : FloatKind.f32.decode b = .number (RealS.negW b) F (-149) := by
    show single.read b = _
    rw [read_single, hr, if_pos (by omega)]
    rw [show 0 * 2 ^ 23 + F = F by omega]
  have hp : 2 ^ (23 - s) * 2 ^ s = 2 ^ 23 := by rw [← Nat.pow_add, show 23 - s + s = 23 by omega]
  have hp2 : 2 ^ (23 - s + 1) * 2 ^ s = 2 ^ 24 := by rw [← Nat.pow_add, show 23 - s + 1 + s = 24 by omega]
  have hL : F.log2 = 23 - s := by
    refine (Nat.log2_eq_iff (by omega)).2 ⟨?_, ?_⟩
    · refine Nat.le_of_mul_le_mul_right (c := 2 ^ s) ?_ (Nat.pow_pos (by decide))
      rw [hp, h]; omega
    · refine Nat.lt_of_mul_lt_mul_right (a := 2 ^ s) ?_
      rw [hp2, h]; omega
  have hen : FloatKind.f64.encode (.number (RealS.negW b) F (-149)) = double.word (RealS.negW b) ((897 - s) * 2 ^ 52 + H * 2 ^ 29) := by
    rw [enc_eq]
    rw [nearest_double _ _ (23 - s) _ (by omega) hL (by omega) (by omega)]
    refine congrArg _ ?_
    have e1 : ((-149 : Int) + ((23 - s : Nat) : Int) - 52 + 1074).toNat = 896 - s := by omega
    have e2 : F * 2 ^ (52 - (23 - s)) = 2 ^ 52 + H * 2 ^ 29 := by
      rw [show 52 - (23 - s) = s + 29 by omega, Nat.pow_add, ← Nat.mul_assoc, h]; exact arith_e2 H
    rw [e1, e2]
    exact arith_sub _ _ _ (by omega) (by omega) hH
  unfold floatToFloatBits
  rw [if_neg (by decide), hrd]
  simp only
  rw [hen]
  have hni : (FloatKind.f64.decode (double.word (RealS.negW b) ((897 - s) * 2 ^ 52 + H * 2 ^ 29))).isInfinity = false := word_read _ _ (arith_lt _ _ (by omega) hH)
  rw [hni, if_neg (by simp)]
  exact congrArg some ((word_neg b _).trans (Nat.add_assoc _ _ _).symm)
end RealN
end Go.Proofs.Ytmmkbjinkdgdbaa
