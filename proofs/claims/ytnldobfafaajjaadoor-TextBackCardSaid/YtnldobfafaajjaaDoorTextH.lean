/- The fact that the laws of signs begin with: signed. -/
import Derived.Test.YtnldobfafaajjaaDoorTextG
import Derived.Test.YtnldobfafaajjaaDoorSlEqualR
namespace Go.Proofs.YtnldobfafaajjaaDoor
open Go.RowKit Go.Shelf
set_option linter.unusedVariables false
set_option linter.unusedSimpArgs false
attribute [local go_sem] Oper.semAt_some
theorem sgn_lit : Txt.sgn [97, 226, 130, 172, 98, 226, 130] = [(97, 1), (8364, 3), (98, 1), (65533, 2)] := by decide +kernel
theorem wide_lit : Txt.wide 1 [66615] = [216, 1, 220, 55] := by decide +kernel
theorem nar_lit : Txt.nar 1 [216, 1, 220, 55] = [66615] := by
  rw [Txt.nar]
  decide +kernel
theorem nvals_ivals (L : List Nat) : nvals .i64 L = ivals (L.map fun r : Nat => (r : Int)) := by
  simp [nvals, ivals, List.map_map, Function.comp_def]
theorem Owns.rdN {w : World} {B : Nat} {e : TypeId} {a : Option Addr} {n cap : Nat} {L : List Nat} (h : Owns w B e 1 a n cap (nvals .i64 L)) : RdI w a (L.map fun r : Nat => (r : Int)) := by
  rw [nvals_ivals] at h; exact h.readsI.rd
theorem rd_row {w : World} {g : Nat} {e : TypeId} {L : List Int} (h : RowAt w g 0 e (ivals L)) : RdI w (some ⟨g, 0, none⟩) L := by
  intro i hi
  refine ⟨_, rfl, h.lt, ?_⟩
  rw [add_lit, Nat.zero_add]; exact h.int0 i hi
/-- a slice of numbers against a row of them that has just been written -/
theorem Equal_new (L : List Int) (a : Option Addr) (n c : Nat) (w : World) (cs : Array Value) (hc : cs.toList = ivals L) (hn : L.length = n) (h9 : n ≤ 100000) (hr : RdI w a L) :
    Calls Tryd.prog 19 #[.slice a n c, .slice (some ⟨w.heap.size, 0, none⟩) n n] (w.alloc (.cells cs 3)) fun e w' => e = .returned (.bool true) ∧ Below w.heap.size w w' := by
  have h0 := RowAt.new w 3 cs
  rw [hc] at h0
  have hb : Below w.heap.size w (w.alloc (.cells cs 3)) := (Below.refl _ w).alloc (Nat.le_refl _) _
  refine (EqualR_yes a (some ⟨w.heap.size, 0, none⟩) n n c n L _ hn rfl (by omega) (hr.below hb (Nat.le_refl _)) (rd_row h0)).mono ?_
  rintro e w' ⟨rfl, k, rfl⟩
  exact ⟨rfl, bdrewN hb k⟩
set_option maxRecDepth 100000 in
set_option maxHeartbeats 2000000 in
theorem signed_any (w : World) (hT : Lib.Utf8Tabs 3 4 w) :
    Calls Tryd.prog 16 #[] w fun e w' => e = .returned (.bool true) ∧ Below w.heap.size w w' := by
  have HT := Lib.hid hT; clear hT
  go_enter Tryd.func16, Tryd.ntmps16
  go_wp2_with fail
  refine (Decode_any [97, 226, 130, 172, 98, 226, 130] (by decide) w HT.out).mono ?_
  rintro e w1 ⟨a1, c1, a2, c2, rfl, hd⟩
  rw [sgn_lit] at hd ⊢
  have h1 := hd.o1.rdN
  have h2 := hd.o2.rdN
  have hb1 := hd.bel
  have hr1 : RdI (w1.alloc (.cells #[.int .i64 66615] 3)) (some ⟨w1.heap.size, 0, none⟩) [66615] := rd_row (L := [66615]) (RowAt.new w1 3 #[.int .i64 66615])
  have hw1 := Wide_ok 1 (.inr rfl) [66615] (some ⟨w1.heap.size, 0, none⟩) 1 1 (w1.alloc (.cells #[.int .i64 66615] 3)) rfl (by omega) (by simp [Txt.good]) hr1
  rw [wide_lit] at hw1
  have HW1 := Lib.hid hw1
  have hb2 : Below w1.heap.size w1 (w1.alloc (.cells #[.int .i64 66615] 3)) := (Below.refl _ w1).alloc (Nat.le_refl _) _
  have H1 := Lib.hid h1; have H2 := Lib.hid h2; have HB1 := Lib.hid hb1; have HB2 := Lib.hid hb2
  clear hd h1 h2 hb1 hb2 hr1 hw1
  go_wp2_with fail
  refine HW1.out.mono ?_
  rintro e w2 ⟨rfl, hb3⟩
  have hb4 : Below w1.heap.size w1 w2 := HB2.out.trans (hb3.mono HB2.out.size)
  have HB4 := Lib.hid hb4
  clear HB2 HW1 hb3 hb4
  go_wp2_with fail
  have hn1 := Narrow_1 [216, 1, 220, 55] w2 (by decide)
  rw [nar_lit] at hn1
  refine hn1.mono ?_
  clear hn1
  rintro e w3 ⟨a3, c3, rfl, ho, hb5⟩
  have h3 := ho.rdN
  have hb6 : Below w1.heap.size w1 w3 := HB4.out.trans (hb5.mono HB4.out.size)
  have HB6 := Lib.hid hb6; have H3 := Lib.hid h3
  clear HB4 hb5 hb6 ho h3
  have he1 := Equal_new [97, 8364, 98, 65533] a1 4 c1 w3 #[.int .i64 97, .int .i64 8364, .int .i64 98, .int .i64 65533] rfl rfl (by omega) (H1.out.below HB6.out (Nat.le_refl _))
  have HE1 := Lib.hid he1
  clear he1 H1
  go_wp2_with fail
  refine HE1.out.mono ?_
  rintro e w4 ⟨rfl, hb7⟩
  have hb8 : Below w1.heap.size w1 w4 := HB6.out.trans (hb7.mono HB6.out.size)
  have h3 := H3.out.below hb7 (Nat.le_refl _)
  have he2 := Equal_new [1, 3, 1, 2] a2 4 c2 w4 #[.int .i64 1, .int .i64 3, .int .i64 1, .int .i64 2] rfl rfl (by omega) (H2.out.below hb8 (Nat.le_refl _))
  have H4 := Lib.hid h3; have HB8 := Lib.hid hb8; have HE2 := Lib.hid he2
  clear he2 H2 h3 H3 HB6 hb7 hb8 HE1
  go_wp2_with fail
  refine HE2.out.mono ?_
  rintro e w5 ⟨rfl, hb9⟩
  have hb10 : Below w1.heap.size w1 w5 := HB8.out.trans (hb9.mono HB8.out.size)
  have h3 := H4.out.below hb9 (Nat.le_refl _)
  have he3 := Equal_new [66615] a3 1 c3 w5 #[.int .i64 66615] rfl rfl (by omega) h3
  have HB10 := Lib.hid hb10; have HE3 := Lib.hid he3
  clear he3 h3 H4 hb9 hb10 HB8 HE2
  go_wp2_with fail
  refine HE3.out.mono ?_
  rintro e w6 ⟨rfl, hb11⟩
  have hb12 : Below w.heap.size w w6 := HB1.out.trans ((HB10.out.trans (hb11.mono HB10.out.size)).mono HB1.out.size)
  have HB12 := Lib.hid hb12
  clear hb11 hb12 HB10 HE3
  go_wp2_with fail
  go_ret
  exact ⟨rfl, HB12.out⟩
end Go.Proofs.YtnldobfafaajjaaDoor
