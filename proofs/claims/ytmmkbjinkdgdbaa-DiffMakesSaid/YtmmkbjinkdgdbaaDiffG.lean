/- The fact differed; the law DiffMetric. -/
import Derived.Test.YtmmkbjinkdgdbaaDiffF
import Derived.Test.YtmmkbjinkdgdbaaDiffA
import Derived.Test.YtmmkbjinkdgdbaaDiffN
import Derived.Test.YtmmkbjinkdgdbaaPlainFar
namespace Go.Proofs.Ytmmkbjinkdgdbaa
open Go.RowKit
set_option linter.unusedVariables false
set_option linter.unusedSimpArgs false
set_option maxRecDepth 100000 in
theorem differed_any (w : World) : Calls Try.prog 49 #[] w fun e w' => e = .returned (.bool true) ∧ Below w.heap.size w w' := by
  have h1 : ∀ w, Calls Try.prog 53 #[.string ⟨#[97, 98, 99, 100]⟩, .string ⟨#[97, 120, 99, 100, 101]⟩] w fun e w' => ∃ x cap, e = .returned (.tuple #[.slice x 5 cap, .nilIface]) ∧ Below w.heap.size w w' := by
    intro w
    refine (Edits_any [97, 98, 99, 100] [97, 120, 99, 100, 101] w (by decide)).mono ?_
    rintro e w1 ⟨x, n, cap, rfl, hn, _, _, _, hb⟩
    rw [Diff.fact_edits] at hn
    subst hn
    exact ⟨x, cap, rfl, hb⟩
  have h2 : ∀ w, Calls Try.prog 51 #[.string ⟨#[97, 98, 99, 100]⟩, .string ⟨#[97, 120, 99, 100, 101]⟩] w fun e w' => e = .returned (.tuple #[.int .i64 3, .nilIface]) ∧ Below w.heap.size w w' := by
    intro w
    refine (Far_any [97, 98, 99, 100] [97, 120, 99, 100, 101] w (by decide)).mono ?_
    rintro e w1 ⟨⟨d, rfl, hd⟩, hb⟩
    have h := hd.lg
    rw [Diff.fact_lg] at h
    have h3 : d = 3 := by simp at h; omega
    subst h3
    exact ⟨rfl, hb⟩
  have h3 : ∀ w, Calls Try.prog 52 #[.string ⟨#[111, 110, 101, 32, 116, 119, 111]⟩, .string ⟨#[49, 32, 116, 119, 111]⟩, .string ⟨#[111, 110, 101, 32, 50]⟩] w fun e w' => e = .returned (.tuple #[.string ⟨#[49, 32, 50]⟩, .bool true, .nilIface]) ∧ Below w.heap.size w w' := by
    intro w
    refine (Both_any [111, 110, 101, 32, 116, 119, 111] [49, 32, 116, 119, 111] [111, 110, 101, 32, 50] w (by decide) (by decide)).mono ?_
    rintro e w1 ⟨h, hb⟩
    rw [Diff.fact_both] at h
    rcases h with ⟨r, hr, rfl⟩ | ⟨hr, _⟩
    · cases hr
      exact ⟨rfl, hb⟩
    · cases hr
  have H1 := Lib.hid h1; clear h1
  have H2 := Lib.hid h2; clear h2
  have H3 := Lib.hid h3; clear h3
  go_enter Try.func49, Try.ntmps49
  go_wp2_with fail
  refine (H1.out _).mono ?_
  rintro e w1 ⟨x, cap, rfl, hb1⟩
  go_wp2_with fail
  refine (H2.out _).mono ?_
  rintro e w2 ⟨rfl, hb2⟩
  go_wp2_with fail
  refine (H3.out _).mono ?_
  rintro e w3 ⟨rfl, hb3⟩
  go_wp2_with fail
  go_ret
  refine ⟨rfl, ?_⟩
  have q2 := hb1.trans (hb2.mono hb1.size)
  exact q2.trans (hb3.mono q2.size)
theorem bstr_ne_iff (l m : List UInt8) : bstr l = bstr m ↔ l = m := ⟨fun h => by have := congrArg (fun s => s.data.toList) h; simpa [bstr_data] using this, fun h => by rw [h]⟩
set_option maxRecDepth 100000 in
set_option maxHeartbeats 1000000 in
theorem DiffMetric_l (l m n : List UInt8) (hl : l.length ≤ 140737488351232) (hm : m.length ≤ 140737488351232) (hn : n.length ≤ 140737488351232) (w : World) :
    Calls Try.prog 12 #[.string (bstr l), .string (bstr m), .string (bstr n)] w fun e w' => e = .returned (.bool true) ∧ Below w.heap.size w w' := by
  have hall : Diff.all [l, m, n] = l.length + m.length + n.length := by simp [Diff.all]; omega
  have hsum : Diff.all [l, m, n] ≤ 1000000000000000000 := by omega
  go_enter Try.func12, Try.ntmps12
  go_wp2_with fail
  refine (differed_any _).mono ?_
  rintro e w1 ⟨rfl, hb1⟩
  go_wp2_with fail
  have hrow := RowAt.new w1 9 #[.string (bstr l), .string (bstr m), .string (bstr n)]
  have hb2 := hb1.alloc hb1.size (.cells #[.string (bstr l), .string (bstr m), .string (bstr n)] 9)
  generalize w1.alloc (.cells #[.string (bstr l), .string (bstr m), .string (bstr n)] 9) = w2 at *
  generalize w1.heap.size = B at *
  refine (near_any [l, m, n] w2 B 3 hrow hsum (by simp) (by simp)).mono ?_
  rintro e w3 ⟨rfl, rfl⟩
  rw [hall]
  by_cases hs : l.length + m.length + n.length ≤ 300
  · have hd : decide (l.length + m.length + n.length ≤ 300) = true := decide_eq_true hs
    rw [hd]
    clear hall hsum hrow hd
    go_wp2_with fail
    refine (Far_any l m _ (by omega)).mono ?_
    rintro e w3 ⟨⟨x, rfl, hx⟩, hb3⟩
    have HX := Lib.hid hx; clear hx
    go_wp2_with fail
    refine (Far_any m l _ (by omega)).mono ?_
    rintro e w4 ⟨⟨y, rfl, hy⟩, hb4⟩
    obtain rfl := hy.unique HX.out.back
    clear hy
    go_wp2_with fail
    refine (Far_any m n _ (by omega)).mono ?_
    rintro e w5 ⟨⟨z, rfl, hz⟩, hb5⟩
    have HZ := Lib.hid hz; clear hz
    go_wp2_with fail
    refine (Far_any l n _ (by omega)).mono ?_
    rintro e w6 ⟨⟨v, rfl, hv⟩, hb6⟩
    have HV := Lib.hid hv; clear hv
    have hvle := HX.out.round HZ.out HV.out
    have hodd := HX.out.1.odd
    have hzle := HZ.out.1.odd.1
    have hiff := HX.out.zero
    have f1 : ((y : Int) == 0) = (l == m) := by
      by_cases h : l = m
      · rw [beq_iff_eq.2 h, beq_iff_eq]
        have := hiff.2 h
        omega
      · rw [beq_eq_false_iff_ne.2 h, beq_eq_false_iff_ne]
        have : ¬ y = 0 := fun e => h (hiff.1 e)
        omega
    have f2 : wrap64 ((y : Int) + z) = (y : Int) + z := IntWalk.wrap64_in _ ⟨by omega, by omega⟩
    have f3 : (v : Int) ≤ (y : Int) + z := by omega
    have f4 : wrap64 ((y : Int) - (l.length : Int)) = (y : Int) - l.length := IntWalk.wrap64_in _ ⟨by omega, by omega⟩
    have f5 : wrap64 ((y : Int) - (l.length : Int) - (m.length : Int)) = (y : Int) - l.length - m.length := IntWalk.wrap64_in _ ⟨by omega, by omega⟩
    have f6 : ((y : Int) - (l.length : Int) - (m.length : Int)).tmod 2 = 0 := by
      apply Int.tmod_eq_zero_of_dvd
      omega
    clear hiff hodd
    go_wp2_with fail
    go_ret
    refine ⟨rfl, ?_⟩
    have q3 := hb2.trans (hb3.mono hb2.size)
    have q4 := q3.trans (hb4.mono q3.size)
    have q5 := q4.trans (hb5.mono q4.size)
    exact q5.trans (hb6.mono q5.size)
  · have hd : decide (l.length + m.length + n.length ≤ 300) = false := decide_eq_false hs
    rw [hd]
    go_wp2_with fail
    go_ret
    exact ⟨rfl, hb2⟩
theorem bstr_length (s : ByteArray) : s.data.toList.length = s.size := by rw [Array.length_toList]; rfl
theorem DiffMetric_walk (a b c : ByteArray) (ha : a.size ≤ 140737488351232) (hb : b.size ≤ 140737488351232) (hc : c.size ≤ 140737488351232) (w : World) :
    Calls Try.prog 12 #[.string a, .string b, .string c] w fun e w' => e = .returned (.bool true) ∧ Below w.heap.size w w' := by
  have h := DiffMetric_l a.data.toList b.data.toList c.data.toList (by rw [bstr_length]; exact ha) (by rw [bstr_length]; exact hb) (by rw [bstr_length]; exact hc) w
  rw [← eq_bstr, ← eq_bstr, ← eq_bstr] at h
  exact h
end Go.Proofs.Ytmmkbjinkdgdbaa
