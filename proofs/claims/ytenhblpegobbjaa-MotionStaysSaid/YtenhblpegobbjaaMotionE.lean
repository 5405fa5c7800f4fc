/- Contract of motion.Go, of all motions (printed by gen_motione.py). -/
import Derived.Test.YtenhblpegobbjaaMotionD
namespace Go.Proofs.Ytenhblpegobbjaa
open Go.RowKit
set_option linter.unusedVariables false
set_option linter.unusedSimpArgs false
set_option maxRecDepth 100000 in
set_option maxHeartbeats 1000000 in
theorem GoE_104 (s : ByteArray) (at_ : Int) (n : Nat) (arg : ByteArray) (mm : Option Nat) (a2 : Option Addr) (n2 c2 : Nat) (w : World) (hs : s.size ≤ 1000) (h0 : 0 ≤ at_) (h1 : at_ ≤ ((s.size - 1 : Nat) : Int)) (hn2 : n ≤ 9999) :
    Calls Try.prog 26 #[plVal s at_ none 0 0 mm a2 n2 c2, .int .u8 104, .int .i64 (n : Nat), .string arg] w fun e w' => GoRes s.size e ∧ Below w.heap.size w w' := by
  have hl := fun x w => bound_any s at_ x none 0 0 mm a2 n2 c2 w (by omega)
  have HLA := Lib.hid hl; clear hl
  have hat : at_ ≤ 1000 := by omega
  have hbox := (Below.refl w.heap.size w).alloc (Nat.le_refl _) (.cells #[.string s, .int .i64 at_, .slice none 0 0, .map mm, .slice a2 n2 c2] 49)
  have HBX := Lib.hid hbox; clear hbox
  by_cases hn0 : n = 0
  · subst hn0
    have hmx : max (((0 : Nat) : Int)) 1 = 1 := by decide
    have hmy : max (0 : Int) 1 = 1 := by decide
    go_enter Try.func26, Try.ntmps26
    go_wp2_with fail
    refine (HLA.out _ _).mono ?_
    rintro e w1 ⟨rfl, hb1⟩
    have hbb := HBX.out.trans (hb1.mono HBX.out.size)
    go_wp2_with fail
    go_ret3
    exact ⟨⟨_, _, _, rfl, .inl ⟨rfl, bnd_nn _ _⟩⟩, hbb⟩
  · have hn1 : (1 : Int) ≤ (n : Int) := by omega
    have hn3 : 1 ≤ n := by omega
    have hn4 : (0 : Int) < (n : Int) := by omega
    have hmx : max (n : Int) 1 = (n : Int) := by omega
    go_enter Try.func26, Try.ntmps26
    go_wp2_with fail
    refine (HLA.out _ _).mono ?_
    rintro e w1 ⟨rfl, hb1⟩
    have hbb := HBX.out.trans (hb1.mono HBX.out.size)
    go_wp2_with fail
    go_ret3
    exact ⟨⟨_, _, _, rfl, .inl ⟨rfl, bnd_nn _ _⟩⟩, hbb⟩
set_option maxRecDepth 100000 in
set_option maxHeartbeats 1000000 in
theorem GoE_108 (s : ByteArray) (at_ : Int) (n : Nat) (arg : ByteArray) (mm : Option Nat) (a2 : Option Addr) (n2 c2 : Nat) (w : World) (hs : s.size ≤ 1000) (h0 : 0 ≤ at_) (h1 : at_ ≤ ((s.size - 1 : Nat) : Int)) (hn2 : n ≤ 9999) :
    Calls Try.prog 26 #[plVal s at_ none 0 0 mm a2 n2 c2, .int .u8 108, .int .i64 (n : Nat), .string arg] w fun e w' => GoRes s.size e ∧ Below w.heap.size w w' := by
  have hl := fun x w => bound_any s at_ x none 0 0 mm a2 n2 c2 w (by omega)
  have HLA := Lib.hid hl; clear hl
  have hat : at_ ≤ 1000 := by omega
  have hbox := (Below.refl w.heap.size w).alloc (Nat.le_refl _) (.cells #[.string s, .int .i64 at_, .slice none 0 0, .map mm, .slice a2 n2 c2] 49)
  have HBX := Lib.hid hbox; clear hbox
  by_cases hn0 : n = 0
  · subst hn0
    have hmx : max (((0 : Nat) : Int)) 1 = 1 := by decide
    have hmy : max (0 : Int) 1 = 1 := by decide
    go_enter Try.func26, Try.ntmps26
    go_wp2_with fail
    refine (HLA.out _ _).mono ?_
    rintro e w1 ⟨rfl, hb1⟩
    have hbb := HBX.out.trans (hb1.mono HBX.out.size)
    go_wp2_with fail
    go_ret3
    exact ⟨⟨_, _, _, rfl, .inl ⟨rfl, bnd_nn _ _⟩⟩, hbb⟩
  · have hn1 : (1 : Int) ≤ (n : Int) := by omega
    have hn3 : 1 ≤ n := by omega
    have hn4 : (0 : Int) < (n : Int) := by omega
    have hmx : max (n : Int) 1 = (n : Int) := by omega
    go_enter Try.func26, Try.ntmps26
    go_wp2_with fail
    refine (HLA.out _ _).mono ?_
    rintro e w1 ⟨rfl, hb1⟩
    have hbb := HBX.out.trans (hb1.mono HBX.out.size)
    go_wp2_with fail
    go_ret3
    exact ⟨⟨_, _, _, rfl, .inl ⟨rfl, bnd_nn _ _⟩⟩, hbb⟩
set_option maxRecDepth 100000 in
set_option maxHeartbeats 1000000 in
theorem GoE_36 (s : ByteArray) (at_ : Int) (n : Nat) (arg : ByteArray) (mm : Option Nat) (a2 : Option Addr) (n2 c2 : Nat) (w : World) (hs : s.size ≤ 1000) (h0 : 0 ≤ at_) (h1 : at_ ≤ ((s.size - 1 : Nat) : Int)) (hn2 : n ≤ 9999) :
    Calls Try.prog 26 #[plVal s at_ none 0 0 mm a2 n2 c2, .int .u8 36, .int .i64 (n : Nat), .string arg] w fun e w' => GoRes s.size e ∧ Below w.heap.size w w' := by
  have hl := fun x w => bound_any s at_ x none 0 0 mm a2 n2 c2 w (by omega)
  have HLA := Lib.hid hl; clear hl
  have hat : at_ ≤ 1000 := by omega
  have hbox := (Below.refl w.heap.size w).alloc (Nat.le_refl _) (.cells #[.string s, .int .i64 at_, .slice none 0 0, .map mm, .slice a2 n2 c2] 49)
  have HBX := Lib.hid hbox; clear hbox
  by_cases hn0 : n = 0
  · subst hn0
    have hmx : max (((0 : Nat) : Int)) 1 = 1 := by decide
    have hmy : max (0 : Int) 1 = 1 := by decide
    go_enter Try.func26, Try.ntmps26
    go_wp2_with fail
    refine (HLA.out _ _).mono ?_
    rintro e w1 ⟨rfl, hb1⟩
    have hbb := HBX.out.trans (hb1.mono HBX.out.size)
    go_wp2_with fail
    go_ret3
    exact ⟨⟨_, _, _, rfl, .inl ⟨rfl, bnd_nn _ _⟩⟩, hbb⟩
  · have hn1 : (1 : Int) ≤ (n : Int) := by omega
    have hn3 : 1 ≤ n := by omega
    have hn4 : (0 : Int) < (n : Int) := by omega
    have hmx : max (n : Int) 1 = (n : Int) := by omega
    go_enter Try.func26, Try.ntmps26
    go_wp2_with fail
    refine (HLA.out _ _).mono ?_
    rintro e w1 ⟨rfl, hb1⟩
    have hbb := HBX.out.trans (hb1.mono HBX.out.size)
    go_wp2_with fail
    go_ret3
    exact ⟨⟨_, _, _, rfl, .inl ⟨rfl, bnd_nn _ _⟩⟩, hbb⟩
set_option maxRecDepth 100000 in
set_option maxHeartbeats 1000000 in
theorem GoE_103 (s : ByteArray) (at_ : Int) (n : Nat) (arg : ByteArray) (mm : Option Nat) (a2 : Option Addr) (n2 c2 : Nat) (w : World) (hs : s.size ≤ 1000) (h0 : 0 ≤ at_) (h1 : at_ ≤ ((s.size - 1 : Nat) : Int)) (hn2 : n ≤ 9999) :
    Calls Try.prog 26 #[plVal s at_ none 0 0 mm a2 n2 c2, .int .u8 103, .int .i64 (n : Nat), .string arg] w fun e w' => GoRes s.size e ∧ Below w.heap.size w w' := by
  have hl := fun x w => bound_any s at_ x none 0 0 mm a2 n2 c2 w (by omega)
  have HLA := Lib.hid hl; clear hl
  have hat : at_ ≤ 1000 := by omega
  have hbox := (Below.refl w.heap.size w).alloc (Nat.le_refl _) (.cells #[.string s, .int .i64 at_, .slice none 0 0, .map mm, .slice a2 n2 c2] 49)
  have HBX := Lib.hid hbox; clear hbox
  by_cases hn0 : n = 0
  · subst hn0
    have hmx : max (((0 : Nat) : Int)) 1 = 1 := by decide
    have hmy : max (0 : Int) 1 = 1 := by decide
    go_enter Try.func26, Try.ntmps26
    go_wp2_with fail
    refine (HLA.out _ _).mono ?_
    rintro e w1 ⟨rfl, hb1⟩
    have hbb := HBX.out.trans (hb1.mono HBX.out.size)
    go_wp2_with fail
    go_ret3
    exact ⟨⟨_, _, _, rfl, .inl ⟨rfl, bnd_nn _ _⟩⟩, hbb⟩
  · have hn1 : (1 : Int) ≤ (n : Int) := by omega
    have hn3 : 1 ≤ n := by omega
    have hn4 : (0 : Int) < (n : Int) := by omega
    have hmx : max (n : Int) 1 = (n : Int) := by omega
    go_enter Try.func26, Try.ntmps26
    go_wp2_with fail
    refine (HLA.out _ _).mono ?_
    rintro e w1 ⟨rfl, hb1⟩
    have hbb := HBX.out.trans (hb1.mono HBX.out.size)
    go_wp2_with fail
    go_ret3
    exact ⟨⟨_, _, _, rfl, .inl ⟨rfl, bnd_nn _ _⟩⟩, hbb⟩
set_option maxRecDepth 100000 in
set_option maxHeartbeats 1000000 in
theorem GoE_119 (s : ByteArray) (at_ : Int) (n : Nat) (arg : ByteArray) (mm : Option Nat) (a2 : Option Addr) (n2 c2 : Nat) (w : World) (hs : s.size ≤ 1000) (h0 : 0 ≤ at_) (h1 : at_ ≤ ((s.size - 1 : Nat) : Int)) (hn2 : n ≤ 9999) :
    Calls Try.prog 26 #[plVal s at_ none 0 0 mm a2 n2 c2, .int .u8 119, .int .i64 (n : Nat), .string arg] w fun e w' => GoRes s.size e ∧ Below w.heap.size w w' := by
  have hl := fun x w => bound_any s at_ x none 0 0 mm a2 n2 c2 w (by omega)
  have HLA := Lib.hid hl; clear hl
  have hat : at_ ≤ 1000 := by omega
  have hbox := (Below.refl w.heap.size w).alloc (Nat.le_refl _) (.cells #[.string s, .int .i64 at_, .slice none 0 0, .map mm, .slice a2 n2 c2] 49)
  have HBX := Lib.hid hbox; clear hbox
  by_cases hn0 : n = 0
  · subst hn0
    have hmx : max (((0 : Nat) : Int)) 1 = 1 := by decide
    have hmy : max (0 : Int) 1 = 1 := by decide
    go_enter Try.func26, Try.ntmps26
    go_wp2_with fail
    refine (HLA.out _ _).mono ?_
    rintro e w1 ⟨rfl, hb1⟩
    have hbb := HBX.out.trans (hb1.mono HBX.out.size)
    go_wp2_with fail
    go_ret3
    exact ⟨⟨_, _, _, rfl, .inl ⟨rfl, bnd_nn _ _⟩⟩, hbb⟩
  · have hn1 : (1 : Int) ≤ (n : Int) := by omega
    have hn3 : 1 ≤ n := by omega
    have hn4 : (0 : Int) < (n : Int) := by omega
    have hmx : max (n : Int) 1 = (n : Int) := by omega
    go_enter Try.func26, Try.ntmps26
    go_wp2_with fail
    refine (HLA.out _ _).mono ?_
    rintro e w1 ⟨rfl, hb1⟩
    have hbb := HBX.out.trans (hb1.mono HBX.out.size)
    go_wp2_with fail
    go_ret3
    exact ⟨⟨_, _, _, rfl, .inl ⟨rfl, bnd_nn _ _⟩⟩, hbb⟩
set_option maxRecDepth 100000 in
set_option maxHeartbeats 1000000 in
theorem GoE_98 (s : ByteArray) (at_ : Int) (n : Nat) (arg : ByteArray) (mm : Option Nat) (a2 : Option Addr) (n2 c2 : Nat) (w : World) (hs : s.size ≤ 1000) (h0 : 0 ≤ at_) (h1 : at_ ≤ ((s.size - 1 : Nat) : Int)) (hn2 : n ≤ 9999) :
    Calls Try.prog 26 #[plVal s at_ none 0 0 mm a2 n2 c2, .int .u8 98, .int .i64 (n : Nat), .string arg] w fun e w' => GoRes s.size e ∧ Below w.heap.size w w' := by
  have hl := fun x w => bound_any s at_ x none 0 0 mm a2 n2 c2 w (by omega)
  have HLA := Lib.hid hl; clear hl
  have hat : at_ ≤ 1000 := by omega
  have hbox := (Below.refl w.heap.size w).alloc (Nat.le_refl _) (.cells #[.string s, .int .i64 at_, .slice none 0 0, .map mm, .slice a2 n2 c2] 49)
  have HBX := Lib.hid hbox; clear hbox
  by_cases hn0 : n = 0
  · subst hn0
    have hmx : max (((0 : Nat) : Int)) 1 = 1 := by decide
    have hmy : max (0 : Int) 1 = 1 := by decide
    go_enter Try.func26, Try.ntmps26
    go_wp2_with fail
    refine (HLA.out _ _).mono ?_
    rintro e w1 ⟨rfl, hb1⟩
    have hbb := HBX.out.trans (hb1.mono HBX.out.size)
    go_wp2_with fail
    go_ret3
    exact ⟨⟨_, _, _, rfl, .inl ⟨rfl, bnd_nn _ _⟩⟩, hbb⟩
  · have hn1 : (1 : Int) ≤ (n : Int) := by omega
    have hn3 : 1 ≤ n := by omega
    have hn4 : (0 : Int) < (n : Int) := by omega
    have hmx : max (n : Int) 1 = (n : Int) := by omega
    go_enter Try.func26, Try.ntmps26
    go_wp2_with fail
    refine (HLA.out _ _).mono ?_
    rintro e w1 ⟨rfl, hb1⟩
    have hbb := HBX.out.trans (hb1.mono HBX.out.size)
    go_wp2_with fail
    go_ret3
    exact ⟨⟨_, _, _, rfl, .inl ⟨rfl, bnd_nn _ _⟩⟩, hbb⟩
set_option maxRecDepth 100000 in
set_option maxHeartbeats 1000000 in
theorem GoE_48 (s : ByteArray) (at_ : Int) (n : Nat) (arg : ByteArray) (mm : Option Nat) (a2 : Option Addr) (n2 c2 : Nat) (w : World) (hs : s.size ≤ 1000) (h0 : 0 ≤ at_) (h1 : at_ ≤ ((s.size - 1 : Nat) : Int)) (hn2 : n ≤ 9999) :
    Calls Try.prog 26 #[plVal s at_ none 0 0 mm a2 n2 c2, .int .u8 48, .int .i64 (n : Nat), .string arg] w fun e w' => GoRes s.size e ∧ Below w.heap.size w w' := by
  have hat : at_ ≤ 1000 := by omega
  have hbox := (Below.refl w.heap.size w).alloc (Nat.le_refl _) (.cells #[.string s, .int .i64 at_, .slice none 0 0, .map mm, .slice a2 n2 c2] 49)
  have HBX := Lib.hid hbox; clear hbox
  by_cases hn0 : n = 0
  · subst hn0
    have hmx : max (((0 : Nat) : Int)) 1 = 1 := by decide
    have hmy : max (0 : Int) 1 = 1 := by decide
    go_enter Try.func26, Try.ntmps26
    go_wp2_with fail
    go_ret3
    exact ⟨⟨_, _, _, rfl, .inl ⟨rfl, by omega, by omega⟩⟩, HBX.out⟩
  · have hn1 : (1 : Int) ≤ (n : Int) := by omega
    have hn3 : 1 ≤ n := by omega
    have hn4 : (0 : Int) < (n : Int) := by omega
    have hmx : max (n : Int) 1 = (n : Int) := by omega
    go_enter Try.func26, Try.ntmps26
    go_wp2_with fail
    go_ret3
    exact ⟨⟨_, _, _, rfl, .inl ⟨rfl, by omega, by omega⟩⟩, HBX.out⟩
set_option maxRecDepth 100000 in
set_option maxHeartbeats 1000000 in
theorem GoE_71 (s : ByteArray) (at_ : Int) (n : Nat) (arg : ByteArray) (mm : Option Nat) (a2 : Option Addr) (n2 c2 : Nat) (w : World) (hs : s.size ≤ 1000) (h0 : 0 ≤ at_) (h1 : at_ ≤ ((s.size - 1 : Nat) : Int)) (hn2 : n ≤ 9999) :
    Calls Try.prog 26 #[plVal s at_ none 0 0 mm a2 n2 c2, .int .u8 71, .int .i64 (n : Nat), .string arg] w fun e w' => GoRes s.size e ∧ Below w.heap.size w w' := by
  have hl := fun x w => bound_any s at_ x none 0 0 mm a2 n2 c2 w (by omega)
  have HLA := Lib.hid hl; clear hl
  have hla := fun w => last_any s at_ none 0 0 mm a2 n2 c2 w (by omega)
  have HL2 := Lib.hid hla; clear hla
  have hat : at_ ≤ 1000 := by omega
  have hbox := (Below.refl w.heap.size w).alloc (Nat.le_refl _) (.cells #[.string s, .int .i64 at_, .slice none 0 0, .map mm, .slice a2 n2 c2] 49)
  have HBX := Lib.hid hbox; clear hbox
  by_cases hn0 : n = 0
  · subst hn0
    have hmx : max (((0 : Nat) : Int)) 1 = 1 := by decide
    have hmy : max (0 : Int) 1 = 1 := by decide
    go_enter Try.func26, Try.ntmps26
    go_wp2_with fail
    refine (HL2.out _).mono ?_
    rintro e w1 ⟨rfl, hb1⟩
    have hbb := HBX.out.trans (hb1.mono HBX.out.size)
    go_wp2_with fail
    go_ret3
    exact ⟨⟨_, _, _, rfl, .inl ⟨rfl, by omega, by omega⟩⟩, hbb⟩
  · have hn1 : (1 : Int) ≤ (n : Int) := by omega
    have hn3 : 1 ≤ n := by omega
    have hn4 : (0 : Int) < (n : Int) := by omega
    have hmx : max (n : Int) 1 = (n : Int) := by omega
    go_enter Try.func26, Try.ntmps26
    go_wp2_with fail
    refine (HLA.out _ _).mono ?_
    rintro e w1 ⟨rfl, hb1⟩
    have hbb := HBX.out.trans (hb1.mono HBX.out.size)
    go_wp2_with fail
    go_ret3
    exact ⟨⟨_, _, _, rfl, .inl ⟨rfl, bnd_nn _ _⟩⟩, hbb⟩
set_option maxRecDepth 100000 in
set_option maxHeartbeats 1000000 in
theorem GoE_106 (s : ByteArray) (at_ : Int) (n : Nat) (arg : ByteArray) (mm : Option Nat) (a2 : Option Addr) (n2 c2 : Nat) (w : World) (hs : s.size ≤ 1000) (h0 : 0 ≤ at_) (h1 : at_ ≤ ((s.size - 1 : Nat) : Int)) (hn2 : n ≤ 9999) :
    Calls Try.prog 26 #[plVal s at_ none 0 0 mm a2 n2 c2, .int .u8 106, .int .i64 (n : Nat), .string arg] w fun e w' => GoRes s.size e ∧ Below w.heap.size w w' := by
  have hl := fun x w => bound_any s at_ x none 0 0 mm a2 n2 c2 w (by omega)
  have HLA := Lib.hid hl; clear hl
  have hla := fun w => last_any s at_ none 0 0 mm a2 n2 c2 w (by omega)
  have HL2 := Lib.hid hla; clear hla
  have hat : at_ ≤ 1000 := by omega
  have hbox := (Below.refl w.heap.size w).alloc (Nat.le_refl _) (.cells #[.string s, .int .i64 at_, .slice none 0 0, .map mm, .slice a2 n2 c2] 49)
  have HBX := Lib.hid hbox; clear hbox
  by_cases hn0 : n = 0
  · subst hn0
    have hmx : max (((0 : Nat) : Int)) 1 = 1 := by decide
    have hmy : max (0 : Int) 1 = 1 := by decide
    by_cases q1 : at_ + 16 * 1 < 0
    · have d1 : decide (at_ + 16 * 1 < 0) = true := decide_eq_true q1
      exfalso; omega
    · have d1 : decide (at_ + 16 * 1 < 0) = false := decide_eq_false q1
      by_cases q2 : ((s.size - 1 : Nat) : Int) < at_ + 16 * 1
      · have d2 : decide (((s.size - 1 : Nat) : Int) < at_ + 16 * 1) = true := decide_eq_true q2
        go_enter Try.func26, Try.ntmps26
        go_wp2_with fail
        refine (HL2.out _).mono ?_
        rintro e w1 ⟨rfl, hb1⟩
        have hbb := HBX.out.trans (hb1.mono HBX.out.size)
        go_wp2_with fail
        go_ret3
        exact ⟨⟨_, _, _, rfl, .inr ⟨_, rfl⟩⟩, hbb⟩
      · have d2 : decide (((s.size - 1 : Nat) : Int) < at_ + 16 * 1) = false := decide_eq_false q2
        go_enter Try.func26, Try.ntmps26
        go_wp2_with fail
        refine (HL2.out _).mono ?_
        rintro e w1 ⟨rfl, hb1⟩
        have hbb := HBX.out.trans (hb1.mono HBX.out.size)
        go_wp2_with fail
        go_ret3
        exact ⟨⟨_, _, _, rfl, .inl ⟨rfl, by omega, by omega⟩⟩, hbb⟩
  · have hn1 : (1 : Int) ≤ (n : Int) := by omega
    have hn3 : 1 ≤ n := by omega
    have hn4 : (0 : Int) < (n : Int) := by omega
    have hmx : max (n : Int) 1 = (n : Int) := by omega
    by_cases q1 : at_ + 16 * (n : Int) < 0
    · have d1 : decide (at_ + 16 * (n : Int) < 0) = true := decide_eq_true q1
      exfalso; omega
    · have d1 : decide (at_ + 16 * (n : Int) < 0) = false := decide_eq_false q1
      by_cases q2 : ((s.size - 1 : Nat) : Int) < at_ + 16 * (n : Int)
      · have d2 : decide (((s.size - 1 : Nat) : Int) < at_ + 16 * (n : Int)) = true := decide_eq_true q2
        go_enter Try.func26, Try.ntmps26
        go_wp2_with fail
        refine (HL2.out _).mono ?_
        rintro e w1 ⟨rfl, hb1⟩
        have hbb := HBX.out.trans (hb1.mono HBX.out.size)
        go_wp2_with fail
        go_ret3
        exact ⟨⟨_, _, _, rfl, .inr ⟨_, rfl⟩⟩, hbb⟩
      · have d2 : decide (((s.size - 1 : Nat) : Int) < at_ + 16 * (n : Int)) = false := decide_eq_false q2
        go_enter Try.func26, Try.ntmps26
        go_wp2_with fail
        refine (HL2.out _).mono ?_
        rintro e w1 ⟨rfl, hb1⟩
        have hbb := HBX.out.trans (hb1.mono HBX.out.size)
        go_wp2_with fail
        go_ret3
        exact ⟨⟨_, _, _, rfl, .inl ⟨rfl, by omega, by omega⟩⟩, hbb⟩
set_option maxRecDepth 100000 in
set_option maxHeartbeats 1000000 in
theorem GoE_107 (s : ByteArray) (at_ : Int) (n : Nat) (arg : ByteArray) (mm : Option Nat) (a2 : Option Addr) (n2 c2 : Nat) (w : World) (hs : s.size ≤ 1000) (h0 : 0 ≤ at_) (h1 : at_ ≤ ((s.size - 1 : Nat) : Int)) (hn2 : n ≤ 9999) :
    Calls Try.prog 26 #[plVal s at_ none 0 0 mm a2 n2 c2, .int .u8 107, .int .i64 (n : Nat), .string arg] w fun e w' => GoRes s.size e ∧ Below w.heap.size w w' := by
  have hl := fun x w => bound_any s at_ x none 0 0 mm a2 n2 c2 w (by omega)
  have HLA := Lib.hid hl; clear hl
  have hla := fun w => last_any s at_ none 0 0 mm a2 n2 c2 w (by omega)
  have HL2 := Lib.hid hla; clear hla
  have hat : at_ ≤ 1000 := by omega
  have hbox := (Below.refl w.heap.size w).alloc (Nat.le_refl _) (.cells #[.string s, .int .i64 at_, .slice none 0 0, .map mm, .slice a2 n2 c2] 49)
  have HBX := Lib.hid hbox; clear hbox
  by_cases hn0 : n = 0
  · subst hn0
    have hmx : max (((0 : Nat) : Int)) 1 = 1 := by decide
    have hmy : max (0 : Int) 1 = 1 := by decide
    by_cases q1 : at_ - 16 * 1 < 0
    · have d1 : decide (at_ - 16 * 1 < 0) = true := decide_eq_true q1
      go_enter Try.func26, Try.ntmps26
      go_wp2_with fail
      go_ret3
      exact ⟨⟨_, _, _, rfl, .inr ⟨_, rfl⟩⟩, HBX.out⟩
    · have d1 : decide (at_ - 16 * 1 < 0) = false := decide_eq_false q1
      by_cases q2 : ((s.size - 1 : Nat) : Int) < at_ - 16 * 1
      · have d2 : decide (((s.size - 1 : Nat) : Int) < at_ - 16 * 1) = true := decide_eq_true q2
        exfalso; omega
      · have d2 : decide (((s.size - 1 : Nat) : Int) < at_ - 16 * 1) = false := decide_eq_false q2
        go_enter Try.func26, Try.ntmps26
        go_wp2_with fail
        refine (HL2.out _).mono ?_
        rintro e w1 ⟨rfl, hb1⟩
        have hbb := HBX.out.trans (hb1.mono HBX.out.size)
        go_wp2_with fail
        go_ret3
        exact ⟨⟨_, _, _, rfl, .inl ⟨rfl, by omega, by omega⟩⟩, hbb⟩
  · have hn1 : (1 : Int) ≤ (n : Int) := by omega
    have hn3 : 1 ≤ n := by omega
    have hn4 : (0 : Int) < (n : Int) := by omega
    have hmx : max (n : Int) 1 = (n : Int) := by omega
    by_cases q1 : at_ - 16 * (n : Int) < 0
    · have d1 : decide (at_ - 16 * (n : Int) < 0) = true := decide_eq_true q1
      go_enter Try.func26, Try.ntmps26
      go_wp2_with fail
      go_ret3
      exact ⟨⟨_, _, _, rfl, .inr ⟨_, rfl⟩⟩, HBX.out⟩
    · have d1 : decide (at_ - 16 * (n : Int) < 0) = false := decide_eq_false q1
      by_cases q2 : ((s.size - 1 : Nat) : Int) < at_ - 16 * (n : Int)
      · have d2 : decide (((s.size - 1 : Nat) : Int) < at_ - 16 * (n : Int)) = true := decide_eq_true q2
        exfalso; omega
      · have d2 : decide (((s.size - 1 : Nat) : Int) < at_ - 16 * (n : Int)) = false := decide_eq_false q2
        go_enter Try.func26, Try.ntmps26
        go_wp2_with fail
        refine (HL2.out _).mono ?_
        rintro e w1 ⟨rfl, hb1⟩
        have hbb := HBX.out.trans (hb1.mono HBX.out.size)
        go_wp2_with fail
        go_ret3
        exact ⟨⟨_, _, _, rfl, .inl ⟨rfl, by omega, by omega⟩⟩, hbb⟩
set_option maxRecDepth 100000 in
set_option maxHeartbeats 1000000 in
theorem GoE_110 (s : ByteArray) (at_ : Int) (n : Nat) (arg : ByteArray) (mm : Option Nat) (a2 : Option Addr) (n2 c2 : Nat) (w : World) (hs : s.size ≤ 1000) (h0 : 0 ≤ at_) (h1 : at_ ≤ ((s.size - 1 : Nat) : Int)) (hn2 : n ≤ 9999) :
    Calls Try.prog 26 #[plVal s at_ none 0 0 mm a2 n2 c2, .int .u8 110, .int .i64 (n : Nat), .string arg] w fun e w' => GoRes s.size e ∧ Below w.heap.size w w' := by
  have hf := fun k w hk0 hk => far_110 s at_ mm a2 n2 c2 k arg w (by omega) h0 (by omega) hk0 hk
  have HF := Lib.hid hf; clear hf
  have hbox := (Below.refl w.heap.size w).alloc (Nat.le_refl _) (.cells #[.string s, .int .i64 at_, .slice none 0 0, .map mm, .slice a2 n2 c2] 49)
  have HBX := Lib.hid hbox; clear hbox
  by_cases hn0 : n = 0
  · subst hn0
    have hmx : max (((0 : Nat) : Int)) 1 = 1 := by decide
    have hmy : max (0 : Int) 1 = 1 := by decide
    go_enter Try.func26, Try.ntmps26
    go_wp2_with fail
    refine (HF.out 1 _ (by omega) (by omega)).mono ?_
    rintro e w1 ⟨⟨dst, b, err, rfl, hc⟩, hb1⟩
    have hbb := HBX.out.trans (hb1.mono HBX.out.size)
    go_wp2_with fail
    go_ret3
    exact ⟨⟨_, _, _, rfl, hc⟩, hbb⟩
  · have hn1 : (1 : Int) ≤ (n : Int) := by omega
    have hn3 : 1 ≤ n := by omega
    have hn4 : (0 : Int) < (n : Int) := by omega
    have hmx : max (n : Int) 1 = (n : Int) := by omega
    go_enter Try.func26, Try.ntmps26
    go_wp2_with fail
    refine (HF.out n _ (by omega) (by omega)).mono ?_
    rintro e w1 ⟨⟨dst, b, err, rfl, hc⟩, hb1⟩
    have hbb := HBX.out.trans (hb1.mono HBX.out.size)
    go_wp2_with fail
    go_ret3
    exact ⟨⟨_, _, _, rfl, hc⟩, hbb⟩
set_option maxRecDepth 100000 in
set_option maxHeartbeats 1000000 in
theorem GoE_78 (s : ByteArray) (at_ : Int) (n : Nat) (arg : ByteArray) (mm : Option Nat) (a2 : Option Addr) (n2 c2 : Nat) (w : World) (hs : s.size ≤ 1000) (h0 : 0 ≤ at_) (h1 : at_ ≤ ((s.size - 1 : Nat) : Int)) (hn2 : n ≤ 9999) :
    Calls Try.prog 26 #[plVal s at_ none 0 0 mm a2 n2 c2, .int .u8 78, .int .i64 (n : Nat), .string arg] w fun e w' => GoRes s.size e ∧ Below w.heap.size w w' := by
  have hf := fun k w hk0 hk => far_78 s at_ mm a2 n2 c2 k arg w (by omega) h0 (by omega) hk0 hk
  have HF := Lib.hid hf; clear hf
  have hbox := (Below.refl w.heap.size w).alloc (Nat.le_refl _) (.cells #[.string s, .int .i64 at_, .slice none 0 0, .map mm, .slice a2 n2 c2] 49)
  have HBX := Lib.hid hbox; clear hbox
  by_cases hn0 : n = 0
  · subst hn0
    have hmx : max (((0 : Nat) : Int)) 1 = 1 := by decide
    have hmy : max (0 : Int) 1 = 1 := by decide
    go_enter Try.func26, Try.ntmps26
    go_wp2_with fail
    refine (HF.out 1 _ (by omega) (by omega)).mono ?_
    rintro e w1 ⟨⟨dst, b, err, rfl, hc⟩, hb1⟩
    have hbb := HBX.out.trans (hb1.mono HBX.out.size)
    go_wp2_with fail
    go_ret3
    exact ⟨⟨_, _, _, rfl, hc⟩, hbb⟩
  · have hn1 : (1 : Int) ≤ (n : Int) := by omega
    have hn3 : 1 ≤ n := by omega
    have hn4 : (0 : Int) < (n : Int) := by omega
    have hmx : max (n : Int) 1 = (n : Int) := by omega
    go_enter Try.func26, Try.ntmps26
    go_wp2_with fail
    refine (HF.out n _ (by omega) (by omega)).mono ?_
    rintro e w1 ⟨⟨dst, b, err, rfl, hc⟩, hb1⟩
    have hbb := HBX.out.trans (hb1.mono HBX.out.size)
    go_wp2_with fail
    go_ret3
    exact ⟨⟨_, _, _, rfl, hc⟩, hbb⟩
set_option maxRecDepth 100000 in
set_option maxHeartbeats 1000000 in
theorem GoE_93 (s : ByteArray) (at_ : Int) (n : Nat) (arg : ByteArray) (mm : Option Nat) (a2 : Option Addr) (n2 c2 : Nat) (w : World) (hs : s.size ≤ 1000) (h0 : 0 ≤ at_) (h1 : at_ ≤ ((s.size - 1 : Nat) : Int)) (hn2 : n ≤ 9999) (L : List Int) (hL0 : L.length = n2) (hL1 : n2 ≤ 1000) (hr : RdI w a2 L) (hL : ∀ x ∈ L, 0 ≤ x ∧ x ≤ 1000) :
    Calls Try.prog 26 #[plVal s at_ none 0 0 mm a2 n2 c2, .int .u8 93, .int .i64 (n : Nat), .string arg] w fun e w' => GoRes s.size e ∧ Below w.heap.size w w' := by
  have hf := fun k w hk0 hk hr => far_93 s at_ none 0 0 mm a2 n2 c2 k arg w (by omega) h0 (by omega) hk0 hk L hL0 hL1 hr hL
  have HF := Lib.hid hf; clear hf
  have HR := Lib.hid hr; clear hr hL hL0
  have hbox := (Below.refl w.heap.size w).alloc (Nat.le_refl _) (.cells #[.string s, .int .i64 at_, .slice none 0 0, .map mm, .slice a2 n2 c2] 49)
  have HBX := Lib.hid hbox; clear hbox
  by_cases hn0 : n = 0
  · subst hn0
    have hmx : max (((0 : Nat) : Int)) 1 = 1 := by decide
    have hmy : max (0 : Int) 1 = 1 := by decide
    go_enter Try.func26, Try.ntmps26
    go_wp2_with fail
    refine (HF.out 1 _ (by omega) (by omega) (HR.out.below HBX.out (Nat.le_refl _))).mono ?_
    rintro e w1 ⟨⟨dst, b, err, rfl, hc⟩, hb1⟩
    have hbb := HBX.out.trans (hb1.mono HBX.out.size)
    go_wp2_with fail
    go_ret3
    exact ⟨⟨_, _, _, rfl, hc⟩, hbb⟩
  · have hn1 : (1 : Int) ≤ (n : Int) := by omega
    have hn3 : 1 ≤ n := by omega
    have hn4 : (0 : Int) < (n : Int) := by omega
    have hmx : max (n : Int) 1 = (n : Int) := by omega
    go_enter Try.func26, Try.ntmps26
    go_wp2_with fail
    refine (HF.out n _ (by omega) (by omega) (HR.out.below HBX.out (Nat.le_refl _))).mono ?_
    rintro e w1 ⟨⟨dst, b, err, rfl, hc⟩, hb1⟩
    have hbb := HBX.out.trans (hb1.mono HBX.out.size)
    go_wp2_with fail
    go_ret3
    exact ⟨⟨_, _, _, rfl, hc⟩, hbb⟩
set_option maxRecDepth 100000 in
set_option maxHeartbeats 1000000 in
theorem GoE_91 (s : ByteArray) (at_ : Int) (n : Nat) (arg : ByteArray) (mm : Option Nat) (a2 : Option Addr) (n2 c2 : Nat) (w : World) (hs : s.size ≤ 1000) (h0 : 0 ≤ at_) (h1 : at_ ≤ ((s.size - 1 : Nat) : Int)) (hn2 : n ≤ 9999) (L : List Int) (hL0 : L.length = n2) (hL1 : n2 ≤ 1000) (hr : RdI w a2 L) (hL : ∀ x ∈ L, 0 ≤ x ∧ x ≤ 1000) :
    Calls Try.prog 26 #[plVal s at_ none 0 0 mm a2 n2 c2, .int .u8 91, .int .i64 (n : Nat), .string arg] w fun e w' => GoRes s.size e ∧ Below w.heap.size w w' := by
  have hf := fun k w hk0 hk hr => far_91 s at_ none 0 0 mm a2 n2 c2 k arg w (by omega) h0 (by omega) hk0 hk L hL0 hL1 hr hL
  have HF := Lib.hid hf; clear hf
  have HR := Lib.hid hr; clear hr hL hL0
  have hbox := (Below.refl w.heap.size w).alloc (Nat.le_refl _) (.cells #[.string s, .int .i64 at_, .slice none 0 0, .map mm, .slice a2 n2 c2] 49)
  have HBX := Lib.hid hbox; clear hbox
  by_cases hn0 : n = 0
  · subst hn0
    have hmx : max (((0 : Nat) : Int)) 1 = 1 := by decide
    have hmy : max (0 : Int) 1 = 1 := by decide
    go_enter Try.func26, Try.ntmps26
    go_wp2_with fail
    refine (HF.out 1 _ (by omega) (by omega) (HR.out.below HBX.out (Nat.le_refl _))).mono ?_
    rintro e w1 ⟨⟨dst, b, err, rfl, hc⟩, hb1⟩
    have hbb := HBX.out.trans (hb1.mono HBX.out.size)
    go_wp2_with fail
    go_ret3
    exact ⟨⟨_, _, _, rfl, hc⟩, hbb⟩
  · have hn1 : (1 : Int) ≤ (n : Int) := by omega
    have hn3 : 1 ≤ n := by omega
    have hn4 : (0 : Int) < (n : Int) := by omega
    have hmx : max (n : Int) 1 = (n : Int) := by omega
    go_enter Try.func26, Try.ntmps26
    go_wp2_with fail
    refine (HF.out n _ (by omega) (by omega) (HR.out.below HBX.out (Nat.le_refl _))).mono ?_
    rintro e w1 ⟨⟨dst, b, err, rfl, hc⟩, hb1⟩
    have hbb := HBX.out.trans (hb1.mono HBX.out.size)
    go_wp2_with fail
    go_ret3
    exact ⟨⟨_, _, _, rfl, hc⟩, hbb⟩
set_option maxRecDepth 100000 in
set_option maxHeartbeats 1000000 in
theorem GoE_102 (s : ByteArray) (at_ : Int) (n : Nat) (c d : UInt8) (h g : Nat) (mm : Option Nat) (a2 : Option Addr) (n2 c2 : Nat) (w : World) (hs : s.size ≤ 1000) (h0 : 0 ≤ at_) (h1 : at_ ≤ ((s.size - 1 : Nat) : Int)) (hn2 : n ≤ 9999) (hc : c ≠ 32) (hh : Keys.dig c.toNat = (h : Int)) (hg : Keys.dig d.toNat = (g : Int)) :
    Calls Try.prog 26 #[plVal s at_ none 0 0 mm a2 n2 c2, .int .u8 102, .int .i64 (n : Nat), .string (bstr [c, d])] w fun e w' => GoRes s.size e ∧ Below w.heap.size w w' := by
  have hf := fun k w hk0 hk => far_102 s at_ none 0 0 mm a2 n2 c2 k c d h g w (by omega) h0 (by omega) hk0 hk hc hh hg
  have HF := Lib.hid hf; clear hf hc hh hg
  have hbox := (Below.refl w.heap.size w).alloc (Nat.le_refl _) (.cells #[.string s, .int .i64 at_, .slice none 0 0, .map mm, .slice a2 n2 c2] 49)
  have HBX := Lib.hid hbox; clear hbox
  by_cases hn0 : n = 0
  · subst hn0
    have hmx : max (((0 : Nat) : Int)) 1 = 1 := by decide
    have hmy : max (0 : Int) 1 = 1 := by decide
    go_enter Try.func26, Try.ntmps26
    go_wp2_with fail
    refine (HF.out 1 _ (by omega) (by omega)).mono ?_
    rintro e w1 ⟨⟨dst, b, err, rfl, hc⟩, hb1⟩
    have hbb := HBX.out.trans (hb1.mono HBX.out.size)
    go_wp2_with fail
    go_ret3
    exact ⟨⟨_, _, _, rfl, hc⟩, hbb⟩
  · have hn1 : (1 : Int) ≤ (n : Int) := by omega
    have hn3 : 1 ≤ n := by omega
    have hn4 : (0 : Int) < (n : Int) := by omega
    have hmx : max (n : Int) 1 = (n : Int) := by omega
    go_enter Try.func26, Try.ntmps26
    go_wp2_with fail
    refine (HF.out n _ (by omega) (by omega)).mono ?_
    rintro e w1 ⟨⟨dst, b, err, rfl, hc⟩, hb1⟩
    have hbb := HBX.out.trans (hb1.mono HBX.out.size)
    go_wp2_with fail
    go_ret3
    exact ⟨⟨_, _, _, rfl, hc⟩, hbb⟩
set_option maxRecDepth 100000 in
set_option maxHeartbeats 1000000 in
theorem GoE_39 (s : ByteArray) (at_ : Int) (n : Nat) (c : UInt8) (m : Nat) (a2 : Option Addr) (n2 c2 : Nat) (w : World) (ks : List Nat) (hm : MarkMap w m ks) (hs : s.size ≤ 1000) (h0 : 0 ≤ at_) (h1 : at_ ≤ ((s.size - 1 : Nat) : Int)) (hn2 : n ≤ 9999) :
    Calls Try.prog 26 #[plVal s at_ none 0 0 (some m) a2 n2 c2, .int .u8 39, .int .i64 (n : Nat), .string (bstr [c])] w fun e w' => GoRes s.size e ∧ Below w.heap.size w w' := by
  have hl := fun x w => bound_any s at_ x none 0 0 (some m) a2 n2 c2 w (by omega)
  have HLA := Lib.hid hl; clear hl
  have hat : at_ ≤ 1000 := by omega
  have hc0 : ∀ q : 0 < (bstr [c]).size, ((bstr [c])[0]'q).toNat = c.toNat := fun q => by rw [bstr_at]; rfl
  have hc8 : c.toNat < 256 := c.toNat_lt
  generalize c.toNat = x at *
  obtain ⟨v, b, hlook⟩ := (hm.below ((Below.refl w.heap.size w).alloc (Nat.le_refl _) (.cells #[.string s, .int .i64 at_, .slice none 0 0, .map (some m), .slice a2 n2 c2] 49)) hm.lt).look x hc8
  clear hm
  have hbox := (Below.refl w.heap.size w).alloc (Nat.le_refl _) (.cells #[.string s, .int .i64 at_, .slice none 0 0, .map (some m), .slice a2 n2 c2] 49)
  have HBX := Lib.hid hbox; clear hbox
  by_cases hn0 : n = 0
  · subst hn0
    have hmx : max (((0 : Nat) : Int)) 1 = 1 := by decide
    have hmy : max (0 : Int) 1 = 1 := by decide
    rcases b with _ | _
    · go_enter Try.func26, Try.ntmps26
      go_wp2_with fail
      go_quiet (fail)
      clear hlook
      have HBY := Lib.hid (bdrewN HBX.out nq)
      go_wp2_with fail
      go_ret3
      exact ⟨⟨_, _, _, rfl, .inr ⟨_, rfl⟩⟩, HBY.out⟩
    · go_enter Try.func26, Try.ntmps26
      go_wp2_with fail
      go_quiet (fail)
      clear hlook
      have HBY := Lib.hid (bdrewN HBX.out nq)
      go_wp2_with fail
      refine (HLA.out _ _).mono ?_
      rintro e w1 ⟨rfl, hb1⟩
      have hbb := HBY.out.trans (hb1.mono HBY.out.size)
      go_wp2_with fail
      go_ret3
      exact ⟨⟨_, _, _, rfl, .inl ⟨rfl, bnd_nn _ _⟩⟩, hbb⟩
  · have hn1 : (1 : Int) ≤ (n : Int) := by omega
    have hn3 : 1 ≤ n := by omega
    have hn4 : (0 : Int) < (n : Int) := by omega
    have hmx : max (n : Int) 1 = (n : Int) := by omega
    rcases b with _ | _
    · go_enter Try.func26, Try.ntmps26
      go_wp2_with fail
      go_quiet (fail)
      clear hlook
      have HBY := Lib.hid (bdrewN HBX.out nq)
      go_wp2_with fail
      go_ret3
      exact ⟨⟨_, _, _, rfl, .inr ⟨_, rfl⟩⟩, HBY.out⟩
    · go_enter Try.func26, Try.ntmps26
      go_wp2_with fail
      go_quiet (fail)
      clear hlook
      have HBY := Lib.hid (bdrewN HBX.out nq)
      go_wp2_with fail
      refine (HLA.out _ _).mono ?_
      rintro e w1 ⟨rfl, hb1⟩
      have hbb := HBY.out.trans (hb1.mono HBY.out.size)
      go_wp2_with fail
      go_ret3
      exact ⟨⟨_, _, _, rfl, .inl ⟨rfl, bnd_nn _ _⟩⟩, hbb⟩
end Go.Proofs.Ytenhblpegobbjaa
