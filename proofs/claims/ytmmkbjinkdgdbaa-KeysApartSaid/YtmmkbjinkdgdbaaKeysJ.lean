/- The law KeysApart: the walk. -/
import Derived.Test.YtmmkbjinkdgdbaaKeysI
namespace Go.Proofs.Ytmmkbjinkdgdbaa
open Go.RowKit
set_option linter.unusedVariables false
set_option linter.unusedSimpArgs false
/-- Parse, of what it answers -/
theorem Parse_full (s : ByteArray) (w : World) (hs : s.size ≤ 1000) (c : Keys.Cm) (rest : List UInt8) (what u : Nat) (hp : Keys.parse s.data.toList = (c, rest, what)) (hu : u = s.size - rest.length) :
    Calls Try.prog 25 #[.string s] w fun e w' => e = .returned (.tuple #[.agg #[.int .u8 (c.reg : Int), .int .i64 (c.n : Int), .int .u8 (c.op : Int), .int .u8 (c.move : Int), .string (bstr c.arg)], .int .i64 (u : Int), .int .i64 (what : Int)]) ∧ Below w.heap.size w w' := by
  refine (Parse_any s w hs).mono ?_
  rintro e w' ⟨arg, ha, he, hb⟩
  rw [hp] at ha he
  simp only at ha he
  obtain rfl : arg = bstr c.arg := ByteArray.ext (Array.ext' ha)
  refine ⟨?_, hb⟩
  rw [he, hu]
  rfl
theorem extract_take (s : ByteArray) (k : Nat) : (s.extract 0 k).data.toList = s.data.toList.take k := by
  rw [ByteArray.data_extract, Array.toList_extract]
  simp
set_option maxRecDepth 100000 in
theorem Apart_long (s t : ByteArray) (w : World) (h : 60 < s.size ∨ 60 < t.size) (hs : s.size ≤ 140737488351232) (ht : t.size ≤ 140737488351232) :
    Calls Try.prog 5 #[.string s, .string t] w fun e w' => e = .returned (.bool true) ∧ Below w.heap.size w w' := by
  by_cases h1 : 60 < s.size
  · have h1d : decide ((60 : Int) < (s.size : Int)) = true := by rw [decide_eq_true_eq]; omega
    go_enter Try.func5, Try.ntmps5
    go_wp2_with fail
    refine (keyed_any _).mono ?_
    rintro e w1 ⟨rfl, hb1⟩
    go_wp2_with fail
    go_ret
    exact ⟨rfl, hb1⟩
  · have h1d : decide ((60 : Int) < (s.size : Int)) = false := by rw [decide_eq_false_iff_not]; omega
    have h2d : decide ((60 : Int) < (t.size : Int)) = true := by rw [decide_eq_true_eq]; omega
    go_enter Try.func5, Try.ntmps5
    go_wp2_with fail
    refine (keyed_any _).mono ?_
    rintro e w1 ⟨rfl, hb1⟩
    go_wp2_with fail
    go_ret
    exact ⟨rfl, hb1⟩
set_option maxRecDepth 100000 in
set_option maxHeartbeats 1000000 in
theorem Apart_0 (s t : ByteArray) (w : World) (hs : s.size ≤ 60) (ht : t.size ≤ 60) (c d : Keys.Cm) (rest rest2 : List UInt8) (u v x : Nat)
    (hp : Keys.parse s.data.toList = (c, rest, 0)) (hp2 : Keys.parse (s ++ t).data.toList = (d, rest2, x)) (hu : u = s.size - rest.length) (hv : v = (s ++ t).size - rest2.length)
    (hu0 : u = s.size) (hx : x ≤ 2) :
    Calls Try.prog 5 #[.string s, .string t] w fun e w' => e = .returned (.bool true) ∧ Below w.heap.size w w' := by
  have hsz : (s ++ t).size = s.size + t.size := by simp
  have hA := fun w => Parse_full s w (by omega) c rest 0 u hp hu
  have hB := fun w => Parse_full (s ++ t) w (by omega) d rest2 x v hp2 hv
  have HA := Lib.hid hA; clear hA
  have HB := Lib.hid hB; clear hB
  have hule : u ≤ s.size := by omega
  have h1d : decide ((60 : Int) < (s.size : Int)) = false := by rw [decide_eq_false_iff_not]; omega
  have h2d : decide ((60 : Int) < (t.size : Int)) = false := by rw [decide_eq_false_iff_not]; omega
  have h3d : decide ((s.size : Int) < (u : Int)) = false := by rw [decide_eq_false_iff_not]; omega
  have hcat : ¬ 9223372036854775807 < s.size + t.size := by omega
  clear hp hp2
  generalize hst : s ++ t = st at *
  clear hv hsz
  have hun : ((u : Int) != (s.size : Int)) = false := by rw [hu0]; simp
  clear hu0 hu
  go_enter Try.func5, Try.ntmps5
  go_wp2_with fail
  refine (keyed_any _).mono ?_
  rintro e w1 ⟨rfl, hb1⟩
  go_wp2_with fail
  with_reducible refine (HA.out _).mono ?_
  rintro e w2 ⟨rfl, hb2⟩
  have hr := RowAt.new w2 42 #[.int .u8 (c.reg : Int), .int .i64 (c.n : Int), .int .u8 (c.op : Int), .int .u8 (c.move : Int), .string (bstr c.arg)]
  have hbA := hb1.trans (hb2.mono hb1.size)
  have hbB := hbA.alloc hbA.size (.cells #[.int .u8 (c.reg : Int), .int .i64 (c.n : Int), .int .u8 (c.op : Int), .int .u8 (c.move : Int), .string (bstr c.arg)] 42)
  have hlt := hr.lt
  go_wp2_with fail
  generalize w2.alloc (.cells #[.int .u8 (c.reg : Int), .int .i64 (c.n : Int), .int .u8 (c.op : Int), .int .u8 (c.move : Int), .string (bstr c.arg)] 42) = w3 at *
  generalize w2.heap.size = G at *
  clear hb1 hb2 hbA
  have HR := Lib.hid hr; clear hr
  with_reducible refine (HB.out _).mono ?_
  rintro e w4 ⟨rfl, hb4⟩
  have hr2 := HR.out.below hb4 hlt
  have hbC := hbB.trans (hb4.mono hbB.size)
  clear hbB hb4 hlt HR
  have hrc := hr2.alloc (.cells #[.int .u8 (d.reg : Int), .int .i64 (d.n : Int), .int .u8 (d.op : Int), .int .u8 (d.move : Int), .string (bstr d.arg)] 42)
  have hrd := RowAt.new w4 42 #[.int .u8 (d.reg : Int), .int .i64 (d.n : Int), .int .u8 (d.op : Int), .int .u8 (d.move : Int), .string (bstr d.arg)]
  have hbD := hbC.alloc hbC.size (.cells #[.int .u8 (d.reg : Int), .int .i64 (d.n : Int), .int .u8 (d.op : Int), .int .u8 (d.move : Int), .string (bstr d.arg)] 42)
  simp only [] at hrc hrd
  have c0 := hrc.cell0 0 (by simp)
  have c1 := hrc.cell0 1 (by simp)
  have c2 := hrc.cell0 2 (by simp)
  have c3 := hrc.cell0 3 (by simp)
  have c4 := hrc.cell0 4 (by simp)
  simp only [List.getElem_cons_zero, List.getElem_cons_succ] at c0 c1 c2 c3 c4
  have d0 := hrd.cell0 0 (by simp)
  have d1 := hrd.cell0 1 (by simp)
  have d2 := hrd.cell0 2 (by simp)
  have d3 := hrd.cell0 3 (by simp)
  have d4 := hrd.cell0 4 (by simp)
  simp only [List.getElem_cons_zero, List.getElem_cons_succ] at d0 d1 d2 d3 d4
  clear hr2 hrc hrd hbC
  go_wp2_with fail
  clear c0 c1 c2 c3 c4 d0 d1 d2 d3 d4
  generalize w4.alloc (.cells #[.int .u8 (d.reg : Int), .int .i64 (d.n : Int), .int .u8 (d.op : Int), .int .u8 (d.move : Int), .string (bstr d.arg)] 42) = w5 at *
  go_loopw [11] (fun i wr => i = .int .i64 0 ∧ Hid (Below w.heap.size w wr)) (fun _ _ => 0)
  case atStart => exact ⟨rfl, Lib.hid hbD⟩
  case round =>
    obtain ⟨rfl, HBW⟩ := hrel
    by_cases h0 : 0 < u
    · have h0i : (0 : Int) < (u : Int) := by omega
      go_wp2_with fail
      go_ret
      exact ⟨rfl, HBW.out⟩
    · have h0i : decide ((0 : Int) < (u : Int)) = false := by rw [decide_eq_false_iff_not]; omega
      go_wp2_with fail
      go_ret
      exact ⟨rfl, HBW.out⟩
set_option maxRecDepth 100000 in
set_option maxHeartbeats 1000000 in
theorem Apart_1 (s t : ByteArray) (w : World) (hs : s.size ≤ 60) (ht : t.size ≤ 60) (c d : Keys.Cm) (rest rest2 : List UInt8) (u v x : Nat)
    (hp : Keys.parse s.data.toList = (c, rest, 1)) (hp2 : Keys.parse (s ++ t).data.toList = (c, rest2, 1)) (hu : u = s.size - rest.length) (hv : v = (s ++ t).size - rest2.length)
    (huv : u = v) (hx : x = 1) (hstart : ∀ k, k < u → ∃ c', Keys.parse (s.data.toList.take k) = (c', [], 0)) :
    Calls Try.prog 5 #[.string s, .string t] w fun e w' => e = .returned (.bool true) ∧ Below w.heap.size w w' := by
  have hsz : (s ++ t).size = s.size + t.size := by simp
  have hA := fun w => Parse_full s w (by omega) c rest 1 u hp hu
  have hB := fun w => Parse_full (s ++ t) w (by omega) c rest2 1 v hp2 hv
  have HA := Lib.hid hA; clear hA
  have HB := Lib.hid hB; clear hB
  have hule : u ≤ s.size := by omega
  have h1d : decide ((60 : Int) < (s.size : Int)) = false := by rw [decide_eq_false_iff_not]; omega
  have h2d : decide ((60 : Int) < (t.size : Int)) = false := by rw [decide_eq_false_iff_not]; omega
  have h3d : decide ((s.size : Int) < (u : Int)) = false := by rw [decide_eq_false_iff_not]; omega
  have hcat : ¬ 9223372036854775807 < s.size + t.size := by omega
  clear hp hp2
  generalize hst : s ++ t = st at *
  clear hv hsz
  have hvu : (((v : Nat) : Int) != (u : Int)) = false := by rw [huv]; simp
  have HST := Lib.hid hstart; clear hstart hu huv
  go_enter Try.func5, Try.ntmps5
  go_wp2_with fail
  refine (keyed_any _).mono ?_
  rintro e w1 ⟨rfl, hb1⟩
  go_wp2_with fail
  with_reducible refine (HA.out _).mono ?_
  rintro e w2 ⟨rfl, hb2⟩
  have hr := RowAt.new w2 42 #[.int .u8 (c.reg : Int), .int .i64 (c.n : Int), .int .u8 (c.op : Int), .int .u8 (c.move : Int), .string (bstr c.arg)]
  have hbA := hb1.trans (hb2.mono hb1.size)
  have hbB := hbA.alloc hbA.size (.cells #[.int .u8 (c.reg : Int), .int .i64 (c.n : Int), .int .u8 (c.op : Int), .int .u8 (c.move : Int), .string (bstr c.arg)] 42)
  have hlt := hr.lt
  go_wp2_with fail
  generalize w2.alloc (.cells #[.int .u8 (c.reg : Int), .int .i64 (c.n : Int), .int .u8 (c.op : Int), .int .u8 (c.move : Int), .string (bstr c.arg)] 42) = w3 at *
  generalize w2.heap.size = G at *
  clear hb1 hb2 hbA
  have HR := Lib.hid hr; clear hr
  with_reducible refine (HB.out _).mono ?_
  rintro e w4 ⟨rfl, hb4⟩
  have hr2 := HR.out.below hb4 hlt
  have hbC := hbB.trans (hb4.mono hbB.size)
  clear hbB hb4 hlt HR
  have hrc := hr2.alloc (.cells #[.int .u8 (c.reg : Int), .int .i64 (c.n : Int), .int .u8 (c.op : Int), .int .u8 (c.move : Int), .string (bstr c.arg)] 42)
  have hrd := RowAt.new w4 42 #[.int .u8 (c.reg : Int), .int .i64 (c.n : Int), .int .u8 (c.op : Int), .int .u8 (c.move : Int), .string (bstr c.arg)]
  have hbD := hbC.alloc hbC.size (.cells #[.int .u8 (c.reg : Int), .int .i64 (c.n : Int), .int .u8 (c.op : Int), .int .u8 (c.move : Int), .string (bstr c.arg)] 42)
  simp only [] at hrc hrd
  have c0 := hrc.cell0 0 (by simp)
  have c1 := hrc.cell0 1 (by simp)
  have c2 := hrc.cell0 2 (by simp)
  have c3 := hrc.cell0 3 (by simp)
  have c4 := hrc.cell0 4 (by simp)
  simp only [List.getElem_cons_zero, List.getElem_cons_succ] at c0 c1 c2 c3 c4
  have d0 := hrd.cell0 0 (by simp)
  have d1 := hrd.cell0 1 (by simp)
  have d2 := hrd.cell0 2 (by simp)
  have d3 := hrd.cell0 3 (by simp)
  have d4 := hrd.cell0 4 (by simp)
  simp only [List.getElem_cons_zero, List.getElem_cons_succ] at d0 d1 d2 d3 d4
  clear hr2 hrc hrd hbC
  go_wp2_with fail
  clear c0 c1 c2 c3 c4 d0 d1 d2 d3 d4
  generalize w4.alloc (.cells #[.int .u8 (c.reg : Int), .int .i64 (c.n : Int), .int .u8 (c.op : Int), .int .u8 (c.move : Int), .string (bstr c.arg)] 42) = w5 at *
  go_loopw [11] (fun i wr => ∃ k : Nat, k ≤ u ∧ i = .int .i64 (k : Int) ∧ Hid (Below w.heap.size w wr)) (fun i _ => u - (intOf i).toNat)
  case atStart => exact ⟨0, Nat.zero_le _, rfl, Lib.hid hbD⟩
  case round =>
    clear hbD
    obtain ⟨k, hk, rfl, HBW⟩ := hrel
    by_cases hlt : k < u
    · have hki : (k : Int) < (u : Int) := by omega
      obtain ⟨c', hc'⟩ := HST.out k hlt
      have hsx : (s.extract 0 k).size = k := by
        rw [← data_length, extract_take, List.length_take, data_length]; omega
      rw [← extract_take] at hc'
      have hC := fun w => Parse_full (s.extract 0 k) w (by omega) c' [] 0 k hc' (by rw [hsx]; rfl)
      have HC := Lib.hid hC; clear hC hsx hc'
      have hks : (k : Int) ≤ (s.size : Int) := by omega
      go_wp2_with fail
      with_reducible refine (HC.out _).mono ?_
      rintro e w6 ⟨rfl, hb6⟩
      have hb7 := HBW.out.trans (hb6.mono HBW.out.size)
      have hb8 := hb7.alloc hb7.size (.cells #[.int .u8 (c'.reg : Int), .int .i64 (c'.n : Int), .int .u8 (c'.op : Int), .int .u8 (c'.move : Int), .string (bstr c'.arg)] 42)
      have HB8 := Lib.hid hb8; clear hb8 hb7 hb6
      go_wp2_with fail
      go_roundw
      case rel => exact ⟨k + 1, by omega, by go_num, HB8⟩
      case measure => simp [intOf]; omega
    · obtain rfl : k = u := by omega
      have hd : decide ((k : Int) < (k : Int)) = false := by simp
      go_wp2_with fail
      go_ret
      exact ⟨rfl, HBW.out⟩
set_option maxRecDepth 100000 in
set_option maxHeartbeats 1000000 in
theorem Apart_2 (s t : ByteArray) (w : World) (hs : s.size ≤ 60) (ht : t.size ≤ 60) (c d : Keys.Cm) (rest rest2 : List UInt8) (u v x : Nat)
    (hp : Keys.parse s.data.toList = (c, rest, 2)) (hp2 : Keys.parse (s ++ t).data.toList = (d, rest2, 2)) (hu : u = s.size - rest.length) (hv : v = (s ++ t).size - rest2.length)
    (hx : x = 2) :
    Calls Try.prog 5 #[.string s, .string t] w fun e w' => e = .returned (.bool true) ∧ Below w.heap.size w w' := by
  have hsz : (s ++ t).size = s.size + t.size := by simp
  have hA := fun w => Parse_full s w (by omega) c rest 2 u hp hu
  have hB := fun w => Parse_full (s ++ t) w (by omega) d rest2 2 v hp2 hv
  have HA := Lib.hid hA; clear hA
  have HB := Lib.hid hB; clear hB
  have hule : u ≤ s.size := by omega
  have h1d : decide ((60 : Int) < (s.size : Int)) = false := by rw [decide_eq_false_iff_not]; omega
  have h2d : decide ((60 : Int) < (t.size : Int)) = false := by rw [decide_eq_false_iff_not]; omega
  have h3d : decide ((s.size : Int) < (u : Int)) = false := by rw [decide_eq_false_iff_not]; omega
  have hcat : ¬ 9223372036854775807 < s.size + t.size := by omega
  clear hp hp2
  generalize hst : s ++ t = st at *
  clear hv hsz
  clear hu
  go_enter Try.func5, Try.ntmps5
  go_wp2_with fail
  refine (keyed_any _).mono ?_
  rintro e w1 ⟨rfl, hb1⟩
  go_wp2_with fail
  with_reducible refine (HA.out _).mono ?_
  rintro e w2 ⟨rfl, hb2⟩
  have hr := RowAt.new w2 42 #[.int .u8 (c.reg : Int), .int .i64 (c.n : Int), .int .u8 (c.op : Int), .int .u8 (c.move : Int), .string (bstr c.arg)]
  have hbA := hb1.trans (hb2.mono hb1.size)
  have hbB := hbA.alloc hbA.size (.cells #[.int .u8 (c.reg : Int), .int .i64 (c.n : Int), .int .u8 (c.op : Int), .int .u8 (c.move : Int), .string (bstr c.arg)] 42)
  have hlt := hr.lt
  go_wp2_with fail
  generalize w2.alloc (.cells #[.int .u8 (c.reg : Int), .int .i64 (c.n : Int), .int .u8 (c.op : Int), .int .u8 (c.move : Int), .string (bstr c.arg)] 42) = w3 at *
  generalize w2.heap.size = G at *
  clear hb1 hb2 hbA
  have HR := Lib.hid hr; clear hr
  with_reducible refine (HB.out _).mono ?_
  rintro e w4 ⟨rfl, hb4⟩
  have hr2 := HR.out.below hb4 hlt
  have hbC := hbB.trans (hb4.mono hbB.size)
  clear hbB hb4 hlt HR
  have hrc := hr2.alloc (.cells #[.int .u8 (d.reg : Int), .int .i64 (d.n : Int), .int .u8 (d.op : Int), .int .u8 (d.move : Int), .string (bstr d.arg)] 42)
  have hrd := RowAt.new w4 42 #[.int .u8 (d.reg : Int), .int .i64 (d.n : Int), .int .u8 (d.op : Int), .int .u8 (d.move : Int), .string (bstr d.arg)]
  have hbD := hbC.alloc hbC.size (.cells #[.int .u8 (d.reg : Int), .int .i64 (d.n : Int), .int .u8 (d.op : Int), .int .u8 (d.move : Int), .string (bstr d.arg)] 42)
  simp only [] at hrc hrd
  have c0 := hrc.cell0 0 (by simp)
  have c1 := hrc.cell0 1 (by simp)
  have c2 := hrc.cell0 2 (by simp)
  have c3 := hrc.cell0 3 (by simp)
  have c4 := hrc.cell0 4 (by simp)
  simp only [List.getElem_cons_zero, List.getElem_cons_succ] at c0 c1 c2 c3 c4
  have d0 := hrd.cell0 0 (by simp)
  have d1 := hrd.cell0 1 (by simp)
  have d2 := hrd.cell0 2 (by simp)
  have d3 := hrd.cell0 3 (by simp)
  have d4 := hrd.cell0 4 (by simp)
  simp only [List.getElem_cons_zero, List.getElem_cons_succ] at d0 d1 d2 d3 d4
  clear hr2 hrc hrd hbC
  go_wp2_with fail
  clear c0 c1 c2 c3 c4 d0 d1 d2 d3 d4
  generalize w4.alloc (.cells #[.int .u8 (d.reg : Int), .int .i64 (d.n : Int), .int .u8 (d.op : Int), .int .u8 (d.move : Int), .string (bstr d.arg)] 42) = w5 at *
  go_loopw [11] (fun i wr => i = .int .i64 0 ∧ Hid (Below w.heap.size w wr)) (fun _ _ => 0)
  case atStart => exact ⟨rfl, Lib.hid hbD⟩
  case round =>
    obtain ⟨rfl, HBW⟩ := hrel
    by_cases h0 : 0 < u
    · have h0i : (0 : Int) < (u : Int) := by omega
      go_wp2_with fail
      go_ret
      exact ⟨rfl, HBW.out⟩
    · have h0i : decide ((0 : Int) < (u : Int)) = false := by rw [decide_eq_false_iff_not]; omega
      go_wp2_with fail
      go_ret
      exact ⟨rfl, HBW.out⟩
theorem KeysApart_walk (s t : ByteArray) (hs : s.size ≤ 140737488351232) (ht : t.size ≤ 140737488351232) (w : World) :
    Calls Try.prog 5 #[.string s, .string t] w fun e w' => e = .returned (.bool true) ∧ Below w.heap.size w w' := by
  by_cases hl : 60 < s.size ∨ 60 < t.size
  · exact Apart_long s t w hl hs ht
  · have h1 : s.size ≤ 60 := by omega
    have h2 : t.size ≤ 60 := by omega
    have S := Keys.Stage.parse
    have hw := S.what s.data.toList
    obtain ⟨y, hy⟩ := S.suf s.data.toList
    have hyl : s.size = y.length + (Keys.parse s.data.toList).2.1.length := by rw [← data_length, ← List.length_append, ← hy]
    rcases (by omega : (Keys.parse s.data.toList).2.2 = 0 ∨ (Keys.parse s.data.toList).2.2 = 1 ∨ (Keys.parse s.data.toList).2.2 = 2) with h0 | h0 | h0
    · have hr := S.more _ h0
      exact Apart_0 s t w h1 h2 _ _ _ _ s.size _ _ (Prod.ext rfl (Prod.ext rfl h0)) rfl (by show s.size = s.size - (Keys.parse s.data.toList).2.1.length; rw [hr]; rfl) rfl rfl (S.what _)
    · have hd := S.done _ t.data.toList h0
      rw [← append_data] at hd
      refine Apart_1 s t w h1 h2 _ (Keys.parse s.data.toList).1 _ _ (s.size - (Keys.parse s.data.toList).2.1.length) _ 1 (Prod.ext rfl (Prod.ext rfl h0)) hd rfl rfl ?_ rfl ?_
      · rw [List.length_append, ByteArray.size_append, data_length]; omega
      · intro k hk
        have hk2 := S.start _ k h0 (by rw [data_length]; omega)
        exact ⟨_, Prod.ext rfl (Prod.ext (S.more _ hk2) hk2)⟩
    · have hb := S.bad _ t.data.toList h0
      rw [← append_data] at hb
      exact Apart_2 s t w h1 h2 _ _ _ _ (s.size - (Keys.parse s.data.toList).2.1.length) _ 2 (Prod.ext rfl (Prod.ext rfl h0)) (Prod.ext rfl (Prod.ext rfl hb)) rfl rfl rfl
end Go.Proofs.Ytmmkbjinkdgdbaa
