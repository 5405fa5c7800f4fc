/- Contract of find.tree.step. -/
import Derived.Test.YtkahceijhokmoaaAhoM
import Derived.Deep.DeepCutAuto
namespace Go.Proofs.Ytkahceijhokmoaa
open Go.RowKit
set_option linter.unusedVariables false
set_option linter.unusedSimpArgs false
theorem zeroI (w : World) : (zeroValue 3).run Try.prog w = .ok (.int .i64 0) w := by kernel_rfl
/-- what the maps hold -/
def MapsOf (N : List Aho.Wd) (F : Nat → Nat → Option Nat) : Prop := ∀ x ∈ N, ∀ c, c < 256 → F (Aho.ix N x) c = Aho.child N x (UInt8.ofNat c)
theorem ix_zero {N : List Aho.Wd} (h : Aho.Tree N) {y : Aho.Wd} (hy : y ∈ N) : Aho.ix N y = 0 ↔ y = [] := by
  constructor
  · intro e; exact Aho.ix_inj hy h.nil (by rw [e, Aho.ix_root h])
  · intro e; rw [e, Aho.ix_root h]
set_option maxRecDepth 100000 in
set_option maxHeartbeats 1000000 in
theorem step_any {W : World} {B ga cap n q : Nat} {F : Nat → Nat → Option Nat} {T : List Nd} {N : List Aho.Wd} (h : TreeM W B ga cap n q F T) (hT : Aho.Tree N) (hn : N.length = n) (hn4 : n ≤ 100000) (hF : MapsOf N F) (x : Aho.Wd) (hx : x ∈ N)
    (hf : ∀ y ∈ N, y.length ≤ x.length → (T.getD (Aho.ix N y) dn).f = Aho.ix N (Aho.lps N y)) (c : Nat) (hc : c < 256) :
    Calls Try.prog 17 #[.slice (some ⟨ga, 0, none⟩) n cap, .int .i64 (Aho.ix N x : Nat), .int .u8 (c : Nat)] W fun e w' => e = .returned (.int .i64 (Aho.ix N (Aho.lsuf N (x ++ [UInt8.ofNat c])) : Nat)) ∧ W = w' := by
  obtain ⟨R, hR⟩ : ∃ R, R = Aho.ix N (Aho.lsuf N (x ++ [UInt8.ofNat c])) := ⟨_, rfl⟩
  rw [← hR]
  have HH := Lib.hid h; have HT := Lib.hid hT; have HN := Lib.hid hn; have HF := Lib.hid hF; have HFL := Lib.hid hf; have HR := Lib.hid hR; have HX := Lib.hid hx
  obtain ⟨i0, hi0⟩ : ∃ i0, i0 = Aho.ix N x := ⟨_, rfl⟩
  rw [← hi0]
  have HI0 := Lib.hid hi0
  clear h hT hn hF hf hR hx hi0
  go_enter Try.func17, Try.ntmps17
  go_wp2_with fail
  go_loop [1] (fun v1 => ∃ i : Nat, v1 = .int .i64 i ∧ Hid (∃ y ∈ N, i = Aho.ix N y ∧ y.length ≤ x.length ∧ R = Aho.ix N (Aho.lsuf N (y ++ [UInt8.ofNat c])))) (fun v1 => (N.getD (intOf v1).toNat []).length)
  case atStart => exact ⟨i0, rfl, Lib.hid ⟨x, HX.out, HI0.out, Nat.le_refl _, HR.out⟩⟩
  case round =>
    obtain ⟨i, rfl, HY⟩ := hrel
    obtain ⟨y, hy, hiy, hyl, hRy⟩ := HY.out
    have hin : i < n := by rw [hiy, ← HN.out]; exact Aho.ix_lt hy
    have hinI : (i : Int) < (n : Int) := by omega
    have cm := HH.out.cm i hin
    have cf := HH.out.cf i hin
    have hlook := (HH.out.mp i hin).1.look (t := 51) Try.underlying5 Try.underlying51 Try.underlying3 (zeroI W) c hc
    have hfi : F i c = Aho.child N y (UInt8.ofNat c) := by rw [hiy]; exact HF.out y hy c hc
    rw [hfi] at hlook
    have hst := Aho.step_eq HT.out y (UInt8.ofNat c)
    have hff := HFL.out y hy hyl
    rw [← hiy] at hff
    generalize (T.getD i dn).m = m at *
    generalize (T.getD i dn).f = f at *
    have hz := ix_zero HT.out hy
    rw [← hiy] at hz
    unfold Aho.child at hlook
    by_cases hm : y ++ [UInt8.ofNat c] ∈ N
    · rw [if_pos hm] at hlook hst
      rw [hst, ] at hRy
      rw [← hRy] at hlook
      simp only [Option.getD_some, Option.isSome_some] at hlook
      have HLK := Lib.hid hlook
      clear hfi hst hff hz hm hy hiy hyl hRy cf
      go_wp2_with fail
      go_ret
      exact ⟨rfl, rfl⟩
    · rw [if_neg hm] at hlook hst
      simp only [Option.getD_none, Option.isSome_none] at hlook
      by_cases h0 : y = []
      · have hi0 : i = 0 := hz.2 h0
        rw [if_pos h0] at hst
        rw [hst, Aho.ix_root HT.out] at hRy
        have hR0 : R = 0 := hRy
        have b0 : ((i : Int) == 0) = true := by rw [beq_iff_eq]; omega
        have HR0 := Lib.hid hR0
        clear hfi hst hff hz hm hy hiy hyl hRy cf h0 hi0 hR0
        go_wp2_with fail
        go_ret
        rw [HR0.out]
        exact ⟨rfl, rfl⟩
      · rw [if_neg h0] at hst
        rw [hst] at hRy
        have b0 : ((i : Int) == 0) = false := by rw [beq_eq_false_iff_ne]; intro e; exact h0 (hz.1 (by omega))
        have hlp := Aho.lps_mem HT.out.nil y
        have hll := Aho.lps_len N y h0
        have HNX : Hid (∃ y ∈ N, f = Aho.ix N y ∧ y.length ≤ x.length ∧ R = Aho.ix N (Aho.lsuf N (y ++ [UInt8.ofNat c]))) := Lib.hid ⟨_, hlp, hff, by omega, hRy⟩
        have HME : Hid ((N.getD f []).length < (N.getD i []).length) := Lib.hid (by rw [hff, hiy, Aho.ix_get hlp, Aho.ix_get hy]; exact hll)
        clear hfi hst hff hz hm hy hiy hyl hRy h0 hlp hll
        go_wp2_with fail
        go_round
        case rel => exact ⟨f, rfl, HNX⟩
        case measure => simpa [intOf] using HME.out
end Go.Proofs.Ytkahceijhokmoaa
