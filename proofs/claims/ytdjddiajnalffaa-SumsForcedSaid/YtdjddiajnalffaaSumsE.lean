/- The walks of the laws SumsLinear and SumsSwap. -/
import Derived.Test.YtdjddiajnalffaaSumsD
import Derived.Deep.RegionHeld3
namespace Go.Proofs.Ytdjddiajnalffaa
open Go.RowKit
set_option linter.unusedVariables false
set_option linter.unusedSimpArgs false
theorem extract_data (s : ByteArray) (i j : Nat) : (s.extract i j).data.toList = (s.data.toList.take j).drop i := by
  rw [ByteArray.data_extract]; simp [List.drop_take]
theorem extract_size (s : ByteArray) (i j : Nat) (h : j ≤ s.size) : (s.extract i j).size = j - i := by
  rw [ByteArray.size_extract]; omega
theorem run_min4N {P : Program} (w : World) (ts : Array TypeId) (t : TypeId) (x y z u : Nat) :
    (Builtin.min_ ts t #[.int .i64 x, .int .i64 y, .int .i64 z, .int .i64 u]).run P w = .ok (.int .i64 (min (min (min x y) z) u : Nat)) w := by
  have h2 : ∀ a b : Nat, Builtin.min2 (.int .i64 a) (.int .i64 b) = pure (.int .i64 (min a b : Nat)) := by
    intro a b
    simp only [Builtin.min2]
    congr 2
    split <;> omega
  simp [Builtin.min_, List.foldlM, h2]
theorem keepSum {w3 wx w9 : World} {g : Nat} {v0 v1 v2 v3 v4 : Value} (hb : Below wx.heap.size wx w9)
    (h : wx.cell? ⟨g, 0, none⟩ = some v0 ∧ wx.cell? ⟨g, 1, none⟩ = some v1 ∧ wx.cell? ⟨g, 2, none⟩ = some v2 ∧ wx.cell? ⟨g, 3, none⟩ = some v3 ∧ wx.cell? ⟨g, 4, none⟩ = some v4 ∧ g < wx.heap.size ∧ Below w3.heap.size w3 wx) :
    w9.cell? ⟨g, 0, none⟩ = some v0 ∧ w9.cell? ⟨g, 1, none⟩ = some v1 ∧ w9.cell? ⟨g, 2, none⟩ = some v2 ∧ w9.cell? ⟨g, 3, none⟩ = some v3 ∧ w9.cell? ⟨g, 4, none⟩ = some v4 ∧ g < w9.heap.size ∧ Below w3.heap.size w3 w9 := by
  obtain ⟨h0, h1, h2, h3, h4, hl, hbb⟩ := h
  exact ⟨(hb.cell (p := ⟨g, 0, none⟩) hl).trans h0, (hb.cell (p := ⟨g, 1, none⟩) hl).trans h1, (hb.cell (p := ⟨g, 2, none⟩) hl).trans h2, (hb.cell (p := ⟨g, 3, none⟩) hl).trans h3, (hb.cell (p := ⟨g, 4, none⟩) hl).trans h4,
    Nat.lt_of_lt_of_le hl hb.size, hbb.trans (hb.mono hbb.size)⟩
set_option maxRecDepth 100000 in
set_option maxHeartbeats 1000000 in
theorem SumsLinear_walk (a b c : ByteArray) (wd : Int) (p i o : Nat) (way : Bool) (ha : a.size ≤ 140737488351232) (hb : b.size ≤ 140737488351232) (hc : c.size ≤ 140737488351232)
    (_ : -9223372036854775808 ≤ wd) (_ : wd ≤ 9223372036854775807) (hp : p < 4294967296) (hi : i < 4294967296) (ho : o < 4294967296) (w : World) :
    Calls Try.prog 3 #[.string a, .string b, .string c, .int .i64 wd, .int .u32 p, .int .u32 i, .int .u32 o, .bool way] w fun e w' => e = .returned (.bool true) ∧ Below w.heap.size w w' := by
  have hmin : ∀ w, (Builtin.min_ #[3, 3, 3, 3] 3 #[.int .i64 (a.size : Nat), .int .i64 (b.size : Nat), .int .i64 (c.size : Nat), .int .i64 200]).run Try.prog w = .ok (.int .i64 (min (min (min a.size b.size) c.size) 200 : Nat)) w :=
    fun w => run_min4N (P := Try.prog) w #[3, 3, 3, 3] 3 a.size b.size c.size 200
  obtain ⟨N, hN⟩ : ∃ N, N = min (min (min a.size b.size) c.size) 200 := ⟨_, rfl⟩
  rw [← hN] at hmin
  have hNa : N ≤ a.size := by omega
  have hNb : N ≤ b.size := by omega
  have hNc : N ≤ c.size := by omega
  have hN2 : N ≤ 200 := by omega
  clear hN
  go_enter Try.func3, Try.ntmps3
  go_wp2_with fail
  refine (summed_any _).mono ?_
  rintro e w1 ⟨rfl, hb1⟩
  go_wp2_with fail
  clear hmin
  have hNa' : (N : Int) ≤ (a.size : Int) := by omega
  have hNb' : (N : Int) ≤ (b.size : Int) := by omega
  have hNc' : (N : Int) ≤ (c.size : Int) := by omega
  go_quiet (fail)
  go_wp2_with fail
  have hA := extract_size a 0 N hNa
  have hB := extract_size b 0 N hNb
  have hC := extract_size c 0 N hNc
  generalize a.extract 0 N = a1 at *
  generalize b.extract 0 N = b1 at *
  generalize c.extract 0 N = c1 at *
  rw [Nat.sub_zero] at hA hB hC
  refine (made_any wd p i o way _ hp hi ho).mono ?_
  rintro e w2 ⟨rfl, hb2⟩
  have hok := madeP_ok (madeW wd) p i o way (madeW_or wd)
  have hlin := ofN_linear (madeP (madeW wd) p i o way) a1.data.toList b1.data.toList c1.data.toList (by rw [data_length, data_length]; omega) (by rw [data_length, data_length]; omega)
  generalize madeP (madeW wd) p i o way = m at *
  unfold sumVal sumCells
  have hok1 : ofN m a1.data.toList < 4294967296 := Nat.lt_of_lt_of_le (outN_lt m hok _ (foldN_lt m hok _ _ hok.i)) (w_le m hok)
  have hok2 : ofN m b1.data.toList < 4294967296 := Nat.lt_of_lt_of_le (outN_lt m hok _ (foldN_lt m hok _ _ hok.i)) (w_le m hok)
  have hok3 : ofN m c1.data.toList < 4294967296 := Nat.lt_of_lt_of_le (outN_lt m hok _ (foldN_lt m hok _ _ hok.i)) (w_le m hok)
  have HLIN := Lib.hid hlin; clear hlin
  have hof := fun (s : ByteArray) (w : World) (h : s.size ≤ 140737488351232) => of_any m s w hok h
  unfold sumVal sumCells at hof
  have HOF := Lib.hid hof; clear hof
  go_wp2_with fail
  have hrow := RowAt.new w2 25 (sumCells m)
  have hbb := (Below.refl w2.heap.size w2).alloc (Nat.le_refl _) (.cells (sumCells m) 25)
  unfold sumCells at hrow hbb
  have hlt := hrow.lt
  generalize hw3 : w2.alloc (.cells #[.int .i64 (m.w : Nat), .int .u32 (m.p : Nat), .bool m.t, .int .u32 (m.i : Nat), .int .u32 (m.o : Nat)] 25) = w3 at *
  clear hw3
  generalize hg : w2.heap.size = g at *
  have HG := Lib.hid hg; clear hg
  have hc0 := hrow.cell0 0 (by simp)
  have hc1 := hrow.cell0 1 (by simp)
  have hc2 := hrow.cell0 2 (by simp)
  have hc3 := hrow.cell0 3 (by simp)
  have hc4 := hrow.cell0 4 (by simp)
  simp only [List.getElem_cons_zero, List.getElem_cons_succ] at hc0 hc1 hc2 hc3 hc4
  have hAB : (bstr (xorV a1.data.toList b1.data.toList)).size = N := by rw [bstr_size, xorV_length, data_length, data_length]; omega
  have hABC : (xorV (xorV a1.data.toList b1.data.toList) c1.data.toList).length = N := by rw [xorV_length, xorV_length, data_length, data_length, data_length]; omega
  go_region_held3 (fun w' => w'.cell? ⟨g, 0, none⟩ = some (.int .i64 (m.w : Nat)) ∧ w'.cell? ⟨g, 1, none⟩ = some (.int .u32 (m.p : Nat)) ∧ w'.cell? ⟨g, 2, none⟩ = some (.bool m.t) ∧ w'.cell? ⟨g, 3, none⟩ = some (.int .u32 (m.i : Nat)) ∧ w'.cell? ⟨g, 4, none⟩ = some (.int .u32 (m.o : Nat)) ∧ g < w'.heap.size ∧ Below w3.heap.size w3 w')
    (first
      | exact ⟨hc0, hc1, hc2, hc3, hc4, hlt, (Below.refl _ _).drew⟩
      | exact keepSum hbX (by assumption))
    (first
      | (go_at_call 18; ((with_reducible refine (together_any a1 b1 N _ hA hB (by omega)).mono ?_); rintro e w9 ⟨rfl, hbX⟩))
      | (go_at_call 18; ((with_reducible refine (together_any (bstr (xorV a1.data.toList b1.data.toList)) c1 N _ hAB hC (by omega)).mono ?_); rintro e w9 ⟨rfl, hbX⟩; rw [bstr_data]))
      | (go_at_call 17; ((with_reducible refine (HOF.out (bstr (xorV (xorV a1.data.toList b1.data.toList) c1.data.toList)) _ (by rw [bstr_size, hABC]; omega)).mono ?_); rintro e w9 ⟨rfl, hbX⟩; rw [bstr_data])))
  rename_i hHeld
  clear hc0 hc1 hc2 hc3 hc4 hlt
  obtain ⟨hc0, hc1, hc2, hc3, hc4, hlt, hB3⟩ := hHeld
  generalize ofN m (xorV (xorV a1.data.toList b1.data.toList) c1.data.toList) = O0 at *
  go_wp2_with fail
  refine (HOF.out a1 _ (by omega)).mono ?_
  rintro e w5 ⟨rfl, hb5⟩
  have hs5 := keepSum hb5 ⟨hc0, hc1, hc2, hc3, hc4, hlt, hB3⟩
  clear hc0 hc1 hc2 hc3 hc4 hlt hB3
  obtain ⟨hc0, hc1, hc2, hc3, hc4, hlt, hB3⟩ := hs5
  generalize ofN m a1.data.toList = O1 at *
  go_wp2_with fail
  refine (HOF.out b1 _ (by omega)).mono ?_
  rintro e w6 ⟨rfl, hb6⟩
  have hs6 := keepSum hb6 ⟨hc0, hc1, hc2, hc3, hc4, hlt, hB3⟩
  clear hc0 hc1 hc2 hc3 hc4 hlt hB3
  obtain ⟨hc0, hc1, hc2, hc3, hc4, hlt, hB3⟩ := hs6
  generalize ofN m b1.data.toList = O2 at *
  go_wp2_with fail
  refine (HOF.out c1 _ (by omega)).mono ?_
  rintro e w7 ⟨rfl, hb7⟩
  have hs7 := keepSum hb7 ⟨hc0, hc1, hc2, hc3, hc4, hlt, hB3⟩
  clear hc0 hc1 hc2 hc3 hc4 hlt hB3
  obtain ⟨hc0, hc1, hc2, hc3, hc4, hlt, hB3⟩ := hs7
  generalize ofN m c1.data.toList = O3 at *
  go_wp2_with fail
  have hx12 : O1 ^^^ O2 < 4294967296 := Nat.xor_lt_two_pow (n := 32) hok1 hok2
  go_ret
  refine ⟨ret_bool ?_, ?_⟩
  · show (((O0 : Nat) : Int) == bits .xor .u32 (bits .xor .u32 (O1 : Int) (O2 : Int)) (O3 : Int)) = true
    rw [u32_xor_nat O1 O2 hok1 hok2, u32_xor_nat (O1 ^^^ O2) O3 hx12 hok3, HLIN.out]
    simp
  · have c1 := bdrewN hb1 nq
    have c2 := c1.trans (hb2.mono c1.size)
    rw [← HG.out] at hbb
    have c3 := c2.trans (hbb.mono c2.size)
    exact c3.trans (hB3.mono c3.size)
end Go.Proofs.Ytdjddiajnalffaa
