/- The law HuffBack. -/
import Derived.Test.YtenhblpegobbjaaHuffJ
import Derived.Test.YtenhblpegobbjaaHuffE
namespace Go.Proofs.Ytenhblpegobbjaa
open Go.RowKit
set_option linter.unusedVariables false
set_option linter.unusedSimpArgs false
namespace Huff
theorem decode_length (L : List Int) (p : List Nat) : ∀ n at_ s, decode L p n at_ = some s → s.length = n := by
  intro n
  induction n with
  | zero => intro at_ s h; unfold decode at h; cases h; rfl
  | succ n ih =>
    intro at_ s h
    unfold decode at h
    cases hd : dgo L p 24 1 0 at_ with
    | none => rw [hd] at h; cases h
    | some r =>
      obtain ⟨c, a2⟩ := r
      rw [hd] at h
      simp only [Option.map_eq_some_iff] at h
      obtain ⟨t, ht, rfl⟩ := h
      rw [List.length_cons, ih _ _ ht]
theorem unpackP_some (p u : List UInt8) (h : unpackP p = some u) : u.length ≤ 4000 ∧ (packed u).map UInt8.ofNat = p := by
  unfold unpackP at h
  split at h
  · cases h
  · split at h
    · cases h
    · rename_i h1
      split at h
      · cases h
      · rename_i s hs
        split at h
        · rename_i he
          cases h
          refine ⟨?_, ?_⟩
          · rw [List.length_map, decode_length _ _ _ _ _ hs]
            refine Nat.le_of_not_lt fun h9 => h1 (.inr h9)
          · rw [he]; exact ofNat_toNat p
        · cases h
end Huff
theorem lens_is : LensIs := fun a c L C w hr hl hC hL => (Lens_ok a 256 c L C w hr hl (by omega) hC hL).mono fun e w' h => h
theorem unpack_none {p : List UInt8} {e : Ending} (h : UnpackOut p e) (hn : Huff.unpackP p = none) : ∃ v k : _, e = .returned (.tuple #[v, .iface 85 (.int .i64 k)]) := by
  unfold UnpackOut at h
  rw [hn] at h
  exact h
theorem unpack_some {p u : List UInt8} {e : Ending} (h : UnpackOut p e) (hn : Huff.unpackP p = some u) : e = .returned (.tuple #[.string (bstr u), .nilIface]) := by
  unfold UnpackOut at h
  rw [hn] at h
  exact h
open Huff in
theorem packed_length (l : List UInt8) : (packed l).length ≤ 20000 ∨ 4000 < l.length := by
  by_cases h : 4000 < l.length
  · exact .inr h
  · refine .inl ?_
    unfold packed
    have hfit := fits_few (counts l) (by rw [counts_length]; exact Nat.le_refl _) (by rw [counts_sum]; omega)
    have hb := bitsS_le (ofInts (lens (counts l))) (fun y hy => (hfit.1 y hy).2) (l.map (·.toNat))
    rw [List.length_map] at hb
    rw [List.length_append, head_length, packBits_length]
    omega
open Huff in
set_option maxRecDepth 100000 in
set_option maxHeartbeats 1000000 in
theorem HuffBack_walk (s p : ByteArray) (hs : s.size ≤ 140737488351232) (hp : p.size ≤ 140737488351232) (w : World) :
    Calls Try.prog 10 #[.string s, .string p] w fun e w' => e = .returned (.bool true) ∧ Below w.heap.size w w' := by
  obtain ⟨l, rfl⟩ : ∃ l, s = bstr l := ⟨_, eq_bstr s⟩
  obtain ⟨m, rfl⟩ : ∃ m, p = bstr m := ⟨_, eq_bstr p⟩
  rw [bstr_size] at hs hp
  go_enter Try.func10, Try.ntmps10
  go_wp2_with fail
  refine (coded_any _).mono ?_
  rintro e w1 ⟨rfl, hb1⟩
  have HB1 := Lib.hid hb1
  clear hb1
  by_cases hl : 600 < l.length
  · have d1 : decide ((600 : Int) < (l.length : Int)) = true := decide_eq_true (by omega)
    have d1n : decide (600 < l.length) = true := decide_eq_true (by omega)
    go_wp2_with fail
    go_ret
    exact ⟨rfl, HB1.out⟩
  · have d1 : decide ((600 : Int) < (l.length : Int)) = false := decide_eq_false (by omega)
    have d1n : decide (600 < l.length) = false := decide_eq_false (by omega)
    by_cases hm : 500 < m.length
    · have d2 : decide ((500 : Int) < (m.length : Int)) = true := decide_eq_true (by omega)
      have d2n : decide (500 < m.length) = true := decide_eq_true (by omega)
      go_wp2_with fail
      go_ret
      exact ⟨rfl, HB1.out⟩
    · have d2 : decide ((500 : Int) < (m.length : Int)) = false := decide_eq_false (by omega)
      have d2n : decide (500 < m.length) = false := decide_eq_false (by omega)
      go_wp2_with fail
      refine (Pack_any lens_is l w1 (by omega)).mono ?_
      rintro e w2 ⟨rfl, hb2⟩
      have HB2 := Lib.hid (HB1.out.trans (hb2.mono HB1.out.size))
      clear hb2 HB1
      go_wp2_with fail
      refine (Unpack_any lens_is ((packed l).map UInt8.ofNat) w2 (by rw [List.length_map]; rcases packed_length l with h | h <;> omega)).mono ?_
      rintro e w3 ⟨he, hb3⟩
      obtain rfl := unpack_some he (unpackP_packed l (by omega))
      have HB3 := Lib.hid (HB2.out.trans (hb3.mono HB2.out.size))
      clear hb3 HB2
      go_wp2_with fail
      refine (Unpack_any lens_is m w3 (by omega)).mono ?_
      rintro e w4 ⟨he, hb4⟩
      have HB4 := Lib.hid (HB3.out.trans (hb4.mono HB3.out.size))
      clear hb4 HB3
      cases hu : unpackP m with
      | none =>
        obtain ⟨v, k, rfl⟩ := unpack_none he hu
        go_wp2_with fail
        go_ret
        exact ⟨rfl, HB4.out⟩
      | some u =>
        obtain rfl := unpack_some he hu
        obtain ⟨h4, h5⟩ := unpackP_some m u hu
        have H5 := Lib.hid h5
        clear hu h5
        go_wp2_with fail
        refine (Pack_any lens_is u w4 h4).mono ?_
        rintro e w5 ⟨rfl, hb5⟩
        have HB5 := Lib.hid (HB4.out.trans (hb5.mono HB4.out.size))
        rw [H5.out]
        clear hb5 HB4
        go_wp2_with fail
        go_ret
        exact ⟨rfl, HB5.out⟩
end Go.Proofs.Ytenhblpegobbjaa
