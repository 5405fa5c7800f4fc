/- Contract of huff.Unpack, up to the map of signs. -/
import Derived.Test.YtenhblpegobbjaaHuffI
import Derived.Test.YtenhblpegobbjaaMapP
namespace Go.Proofs.Ytenhblpegobbjaa
open Go.RowKit
set_option linter.unusedVariables false
set_option linter.unusedSimpArgs false
/-- what Unpack answers -/
def UnpackOut (p : List UInt8) (e : Ending) : Prop := match Huff.unpackP p with
  | some u => e = .returned (.tuple #[.string (bstr u), .nilIface])
  | none => ∃ v k : _, e = .returned (.tuple #[v, .iface 85 (.int .i64 k)])
theorem bor64H (a b : Nat) (ha : a < 9223372036854775808) (hb : b < 9223372036854775808) : bits .or .i64 (a : Int) (b : Int) = ((a ||| b : Nat) : Int) := by
  have hx : a ||| b < 2 ^ 63 := Nat.or_lt_two_pow (by omega) (by omega)
  show IntKind.i64.wrap ((BitVec.ofInt 64 (a : Int) ||| BitVec.ofInt 64 (b : Int)).toNat : Int) = _
  rw [BitVec.toNat_or, ofInt64H a ha, ofInt64H b hb, IntKind.wrap_i64]
  omega
theorem arrP : Go.WideMaps.ArrKey Try.prog 126 3 2 := ⟨Try.underlying126, by kernel_rfl, by kernel_rfl, by kernel_rfl⟩
theorem sizeP : ∃ m, Try.prog.types.size = m + 1 := ⟨Try.prog.types.size - 1, by kernel_rfl⟩
namespace Huff
def qOf (p : List UInt8) : List Nat := p.map (·.toNat)
def lOf (p : List UInt8) : List Int := ofInts ((qOf p).take 256)
theorem lOf_length (p : List UInt8) (h : 259 ≤ p.length) : (lOf p).length = 256 := by
  unfold lOf ofInts qOf
  rw [List.length_map, List.length_take, List.length_map]; omega
theorem qOf_get (p : List UInt8) (k : Nat) (h : k < p.length) : (qOf p).getD k 0 = (p.getD k 0).toNat := by
  unfold qOf
  rw [List.getD_eq_getElem?_getD, List.getElem?_map, List.getD_eq_getElem?_getD, List.getElem?_eq_getElem h]; rfl
theorem lOf_get (p : List UInt8) (h : 259 ≤ p.length) (k : Nat) (hk : k < 256) : (lOf p).getD k 0 = (((p.getD k 0).toNat : Nat) : Int) := by
  unfold lOf ofInts
  rw [List.getD_eq_getElem?_getD, List.getElem?_map, List.getElem?_take_of_lt hk, ← qOf_get p k (by omega), List.getD_eq_getElem?_getD]
  have : k < (qOf p).length := by unfold qOf; rw [List.length_map]; omega
  rw [List.getElem?_eq_getElem this]; rfl
theorem unpackP_short (p : List UInt8) (h : p.length < 259) : unpackP p = none := by unfold unpackP; rw [if_pos h]
theorem unpackP_bad (p : List UInt8) (h : ¬ Fits (lOf p) ∨ 4000 < readN (qOf p)) : unpackP p = none := by
  unfold unpackP
  split
  · rfl
  · exact if_pos h
theorem unpackP_dec (p : List UInt8) (h : 259 ≤ p.length) (hf : Fits (lOf p)) (hn : readN (qOf p) ≤ 4000) : unpackP p = match decode (lOf p) (qOf p) (readN (qOf p)) 2072 with
  | none => none
  | some s => if packed (s.map UInt8.ofNat) = qOf p then some (s.map UInt8.ofNat) else none := by
  unfold unpackP
  rw [if_neg (by omega)]
  have h0 : ¬ (¬ Fits (lOf p) ∨ 4000 < readN (qOf p)) := by
    rintro (h9 | h9)
    · exact h9 hf
    · omega
  split
  · rename_i h1
    exact absurd h1 h0
  · rfl
end Huff
/-- what Unpack holds while it builds the map -/
structure UP (w wr : World) (g g3 b k : Nat) (L : List Int) : Prop where
  map : MapP Try.prog 126 3 wr b k (Huff.findTo L k)
  lens : RowAt wr g 0 3 (ivals L)
  signs : RowAt wr g3 0 3 (ivals (Huff.codes L))
  below : Below w.heap.size w wr
  ng : g ≠ b
  ng3 : g3 ≠ b
  hb : w.heap.size ≤ b
  hg : w.heap.size ≤ g
theorem UP.next {w wr w' : World} {g g3 b k k' : Nat} {L : List Int} (h : UP w wr g g3 b k L) (hg : wr.grownBy w' (some b)) (hm : MapP Try.prog 126 3 w' b k' (Huff.findTo L k')) : UP w w' g g3 b k' L :=
  ⟨hm, h.lens.of_heap (hg.block g h.lens.lt (by intro e; injection e with e; exact h.ng e)), h.signs.of_heap (hg.block g3 h.signs.lt (by intro e; injection e with e; exact h.ng3 e)),
    h.below.grown hg h.below.size (fun x e => by cases e; exact h.hb), h.ng, h.ng3, h.hb, h.hg⟩
theorem UP.skip {w wr : World} {g g3 b k : Nat} {L : List Int} (h : UP w wr g g3 b k L) (hz : L.getD k 0 = 0) : UP w wr g g3 b (k + 1) L :=
  ⟨by rw [Huff.findTo_skip L k hz]; exact h.map.mono (Nat.le_succ _), h.lens, h.signs, h.below, h.ng, h.ng3, h.hb, h.hg⟩
theorem UP.put {w wr w' : World} {g g3 b k d : Nat} {L : List Int} (h : UP w wr g g3 b k L) (hk : k < L.length) (hd : L.getD k 0 = (d : Int)) (h0 : 0 < d) (hg : wr.grownBy w' (some b)) (hm : MapP Try.prog 126 3 w' b (k + 1) (updP (Huff.findTo L k) d (Huff.code L k) k)) : UP w w' g g3 b (k + 1) L :=
  h.next hg (by rw [Huff.findTo_put L k d hk hd h0]; exact hm)
/-- what Unpack holds while it reads -/
structure UR (w wr : World) (B B2 : Nat) (L : List Int) (a : Option Addr) (c : Nat) (o : List Nat) : Prop where
  own : Owns wr B2 5 1 a o.length c (nvals .u8 o)
  map : MapP Try.prog 126 3 wr B 256 (Huff.findTo L 256)
  below : Below w.heap.size w wr
  lt : B < B2
  hB : w.heap.size ≤ B
  size : B2 ≤ wr.heap.size
  small : ∀ x ∈ o, x < 256
theorem UR.push {w wr w' : World} {B B2 : Nat} {L : List Int} {a a' : Option Addr} {c c' : Nat} {o : List Nat} {x : Nat} (h : UR w wr B B2 L a c o) (hx : x < 256) (ho : Owns w' B2 5 1 a' (o.length + 1) c' (nvals .u8 o ++ [.int .u8 (x : Nat)])) (hg : wr.grownBy w' (blk a)) : UR w w' B B2 L a' c' (o ++ [x]) where
  own := by
    have e : nvals .u8 o ++ [.int .u8 (x : Nat)] = nvals .u8 (o ++ [x]) := by unfold nvals; rw [List.map_append]; rfl
    rw [e] at ho
    rw [List.length_append]; exact ho
  map := h.map.kept hg (by
    intro e
    cases a with
    | none => simp [blk] at e
    | some z =>
      simp [blk] at e
      have := h.own.row.2.1
      have := h.lt
      omega)
  below := below_blk h.below h.own (Nat.le_trans h.hB (Nat.le_of_lt h.lt)) (Nat.le_trans h.below.size (Nat.le_refl _)) hg
  lt := h.lt
  hB := h.hB
  size := Nat.le_trans h.size hg.size
  small := by
    intro y hy
    rcases List.mem_append.1 hy with hy | hy
    · exact h.small y hy
    · rw [List.mem_singleton] at hy; omega
theorem band8T : ∀ (z : Fin 256), bits .and .u8 ((z : Nat) : Int) 1 = (((z : Nat) % 2 : Nat) : Int) := by decide +kernel
theorem or_step (v x d : Nat) (hv : v < 16777216) (hx : x < 256) : bits .or .i64 (wrap64 ((v : Int) * 2)) (wrap64 (bits .and .u8 ((x : Int) / 2 ^ d) 1)) = ((2 * v + x / 2 ^ d % 2 : Nat) : Int) := by
  have h1 : x / 2 ^ d < 256 := Nat.lt_of_le_of_lt (Nat.div_le_self _ _) hx
  have h2 : bits .and .u8 ((x : Int) / 2 ^ d) 1 = ((x / 2 ^ d % 2 : Nat) : Int) := band8T ⟨x / 2 ^ d, h1⟩
  have h3 : wrap64 ((v : Int) * 2) = ((2 * v : Nat) : Int) := by
    have e : (v : Int) * 2 = ((2 * v : Nat) : Int) := by omega
    rw [e]; exact (wnat _ (by omega)).1
  rw [h2, h3, (wnat _ (by omega)).1, bor64H _ _ (by omega) (by omega), Huff.or_bit _ _ (by omega)]
def slen (v : Value) : Nat := match v with | .slice _ n _ => n | _ => 0
/-- one sign, bit by bit -/
def RS (L : List Int) (Q : List Nat) (at0 : Nat) (o : List Nat) (k v at' : Nat) (f : Bool) (o' : List Nat) : Prop :=
  (f = false → o' = o ∧ Huff.dgo L Q 24 1 0 at0 = Huff.dgo L Q (25 - k) k v at') ∧ (f = true → ∃ x, x < 256 ∧ o' = o ++ [x] ∧ Huff.dgo L Q 24 1 0 at0 = some (x, at'))
open Huff in
set_option maxRecDepth 100000 in
set_option maxHeartbeats 4000000 in
theorem Unpack_any (HLE : LensIs) (p : List UInt8) (w : World) (h9 : p.length ≤ 20000) :
    Calls Try.prog 40 #[.string (bstr p)] w fun e w' => UnpackOut p e ∧ Below w.heap.size w w' := by
  by_cases h259 : p.length < 259
  · have hd : decide ((p.length : Int) < 259) = true := decide_eq_true (by omega)
    go_enter Try.func40, Try.ntmps40
    go_wp2_with fail
    go_ret2
    refine ⟨?_, Below.refl _ _⟩
    unfold UnpackOut
    rw [unpackP_short p h259]
    exact ⟨_, _, rfl⟩
  · have h259' : 259 ≤ p.length := by omega
    have hd : decide ((p.length : Int) < 259) = false := decide_eq_false (by omega)
    have hll := lOf_length p h259'
    obtain ⟨i0, hi, hz0, hz1, hz2⟩ := info_parts infoI64
    have HLL := Lib.hid hll; clear hll h259
    go_enter Try.func40, Try.ntmps40
    go_wp2_with (with_reducible refine wpList_make0 _ rfl _ _ 34 rfl 3 i0 (.int .i64 0) Try.underlying34 hi hz0 hz1 rfl .i64 .i64 256 256 256 rfl rfl rfl rfl (by rw [hz2]; omega) (by unfold maxLen; omega) ?_; intro w1 hrow hb hsz)
    obtain ⟨g, hg⟩ : ∃ g, g = w.heap.size := ⟨_, rfl⟩
    rw [← hg] at hrow
    rw [← hg]
    have HG := Lib.hid hg; clear hg
    have hrow1 : RowAt w1 g 0 3 (ivals (fillI (lOf p) 0)) := by
      rw [fillI_zero, HLL.out]; exact hrow
    have HR1 := Lib.hid hrow1; have HB1 := Lib.hid hb
    clear hrow hrow1 hb
    go_wp2_with fail
    go_loopw [27] (fun v27 wr => ∃ k : Nat, k ≤ 256 ∧ v27 = .int .i64 k ∧ Hid (RowAt wr g 0 3 (ivals (fillI (lOf p) k))) ∧ Hid (Below w.heap.size w wr)) (fun v27 _ => 256 - (intOf v27).toNat)
    case atStart => exact ⟨0, by omega, rfl, HR1, HB1⟩
    case round =>
      obtain ⟨k, hk, rfl, HR, HB⟩ := hrel
      clear HR1 HB1
      by_cases hlt : k < 256
      · have hki : (k : Int) < 256 := by omega
        have hkp : (k : Int) < (p.length : Int) := by omega
        have hx : ∀ h : k < (bstr p).size, ((bstr p)[k]'h).toNat = (p.getD k 0).toNat := fun h => by
          rw [List.getD_eq_getElem?_getD, List.getElem?_eq_getElem (show k < p.length by omega)]; rfl
        have hxl := (p.getD k 0).toNat_lt
        have hfg := lOf_get p h259' k hlt
        have hc := HR.out.int0 k (by rw [fillI_length _ _ (by rw [HLL.out]; omega), HLL.out]; exact hlt)
        generalize (fillI (lOf p) k).getD k 0 = v0 at *
        have hf := HR.out.frozen0 k (by rw [ivals_length, fillI_length _ _ (by rw [HLL.out]; omega), HLL.out]; exact hlt)
        generalize (p.getD k 0).toNat = x at *
        have hnx : RowAt (wr.setCell ⟨g, k, none⟩ (.int .i64 (x : Int))) g 0 3 (ivals (fillI (lOf p) (k + 1))) := HR.out.fillI (by rw [HLL.out]; exact hlt) (by rw [hfg])
        have HNX := Lib.hid hnx
        have HBX := Lib.hid (HB.out.setCell (p := ⟨g, k, none⟩) (by rw [HG.out]; exact Nat.le_refl _) (.int .i64 (x : Int)))
        clear hnx hfg
        go_wp2_with fail
        go_roundw
        case rel => exact ⟨k + 1, by omega, by go_num, HNX, HBX⟩
        case measure => simp [intOf]; omega
      · obtain rfl : k = 256 := by omega
        have hd2 : decide (((256 : Nat) : Int) < 256) = false := by decide
        have hall : fillI (lOf p) 256 = lOf p := by have := fillI_full (lOf p); rw [HLL.out] at this; exact this
        rw [hall] at HR
        clear hall
        have hy : ∀ j, j < p.length → ∀ h : j < (bstr p).size, ((bstr p)[j]'h).toNat = (p.getD j 0).toNat := fun j hj h => by
          rw [List.getD_eq_getElem?_getD, List.getElem?_eq_getElem hj]; rfl
        have hy0 := hy 256 (by omega); have hy1 := hy 257 (by omega); have hy2 := hy 258 (by omega)
        have hp0 : (256 : Int) < (p.length : Int) := by omega
        have hp1 : (257 : Int) < (p.length : Int) := by omega
        have hp2 : (258 : Int) < (p.length : Int) := by omega
        have hq0 := qOf_get p 256 (by omega); have hq1 := qOf_get p 257 (by omega); have hq2 := qOf_get p 258 (by omega)
        have hb0 := (p.getD 256 0).toNat_lt; have hb1 := (p.getD 257 0).toNat_lt; have hb2 := (p.getD 258 0).toNat_lt
        have hrn : readN (qOf p) = (p.getD 256 0).toNat * 65536 + (p.getD 257 0).toNat * 256 + (p.getD 258 0).toNat := by unfold readN; rw [hq0, hq1, hq2]
        clear hy hq0 hq1 hq2
        generalize (p.getD 256 0).toNat = n0 at *
        generalize (p.getD 257 0).toNat = n1 at *
        generalize (p.getD 258 0).toNat = n2 at *
        have hs0 : IntKind.i64.wrap ((n0 : Int) * 65536) = ((n0 * 65536 : Nat) : Int) := by rw [IntKind.wrap_i64]; omega
        have hs1 : IntKind.i64.wrap ((n1 : Int) * 256) = ((n1 * 256 : Nat) : Int) := by rw [IntKind.wrap_i64]; omega
        have ho1 : bits .or .i64 ((n0 * 65536 : Nat) : Int) ((n1 * 256 : Nat) : Int) = ((n0 * 65536 ||| n1 * 256 : Nat) : Int) := bor64H _ _ (by omega) (by omega)
        have ho2 : bits .or .i64 ((n0 * 65536 ||| n1 * 256 : Nat) : Int) (n2 : Int) = ((n0 * 65536 + n1 * 256 + n2 : Nat) : Int) := by
          rw [bor64H _ _ (Nat.lt_trans (Nat.or_lt_two_pow (n := 24) (by omega) (by omega)) (by decide)) (by omega), or_three n0 n1 n2 hb1 hb2]
        by_cases hfit : Fits (lOf p)
        · go_wp2_with fail
          refine (Signs_ok _ 256 256 (lOf p) wr (rd_rowI HR.out) HLL.out (by omega) hfit).mono ?_
          rintro e w3 ⟨g3, rfl, hr3, hg3, hb3⟩
          have HR3 := Lib.hid hr3; have HR2 := Lib.hid (HR.out.below hb3 HR.out.lt); have HB3 := Lib.hid (HB.out.trans (hb3.mono HB.out.size))
          clear hr3 hb3
          go_wp2_with fail
          go_quiet (fail)
          have hor3 : bits .or .i64 (bits .or .i64 ((n0 : Int) * 65536) ((n1 : Int) * 256)) (n2 : Int) = ((readN (qOf p) : Nat) : Int) := by
            have e0 : (n0 : Int) * 65536 = ((n0 * 65536 : Nat) : Int) := by simp
            have e1 : (n1 : Int) * 256 = ((n1 * 256 : Nat) : Int) := by simp
            rw [e0, e1, ho1, ho2, hrn]
          rw [hor3]
          obtain ⟨w4, hw4⟩ : ∃ w4, w4 = w3.drewN nq := ⟨_, rfl⟩
          rw [← hw4]
          have HR3b : Hid (RowAt w4 g3 0 3 (ivals (codes (lOf p)))) := Lib.hid (by rw [hw4]; exact HR3.out.drewN nq)
          have HR2b : Hid (RowAt w4 g 0 3 (ivals (lOf p))) := Lib.hid (by rw [hw4]; exact HR2.out.drewN nq)
          have HB4 : Hid (Below w.heap.size w w4) := Lib.hid (by rw [hw4]; exact bdrewN HB3.out nq)
          clear hw4 hor3 ho1 ho2 hs0 hs1 hy0 hy1 hy2 hp0 hp1 hp2 hrn hb0 hb1 hb2 HR3 HR2 HB3 HR HB
          have hrnn : readN (qOf p) ≤ 4000 ∨ 4000 < readN (qOf p) := by omega
          obtain ⟨N, hN⟩ : ∃ N, N = readN (qOf p) := ⟨_, rfl⟩
          rw [← hN]
          rw [← hN] at hrnn
          have HN := Lib.hid hN; clear hN
          rcases hrnn with hn4 | hn4
          · have hd4 : decide ((4000 : Int) < (N : Int)) = false := decide_eq_false (by omega)
            have hmm : ∀ V : World, (Instr.makeMap 125 none).run Try.prog V = .ok (.map (some V.heap.size)) (V.alloc (.map #[] 0)) := fun V => by kernel_rfl
            have HU0 : Hid (UP w (w4.alloc (.map #[] 0)) g g3 w4.heap.size 0 (lOf p)) := Lib.hid
              ⟨by rw [findTo_zero]; exact MapP.made w4, HR2b.out.alloc _, HR3b.out.alloc _, HB4.out.alloc (HB4.out.size) _, Nat.ne_of_lt HR2b.out.lt, Nat.ne_of_lt HR3b.out.lt, HB4.out.size, by rw [HG.out]; exact Nat.le_refl _⟩
            clear HR2b HR3b HB4
            go_wp2_with fail
            obtain ⟨B, hB⟩ : ∃ B, B = w4.heap.size := ⟨_, rfl⟩
            rw [← hB] at HU0 ⊢
            clear hB hmm
            go_loopw [66] (fun v66 wr => ∃ k : Nat, k ≤ 256 ∧ v66 = .int .i64 k ∧ Hid (UP w wr g g3 B k (lOf p))) (fun v66 _ => 256 - (intOf v66).toNat)
            case atStart => exact ⟨0, by omega, rfl, HU0⟩
            case round =>
              clear HU0
              obtain ⟨k, hk, rfl, HU⟩ := hrel
              by_cases hlt : k < 256
              · have hki : (k : Int) < 256 := by omega
                have hkl : k < (lOf p).length := by rw [HLL.out]; exact hlt
                have hc := HU.out.lens.int0 k hkl
                have hbd := hfit.1 ((lOf p).getD k 0) (by rw [List.getD_eq_getElem?_getD, List.getElem?_eq_getElem hkl]; exact List.getElem_mem hkl)
                have hc3 := HU.out.signs.int0 k (by rw [codes_length]; exact hkl)
                rw [codes_get _ _ hkl] at hc3
                obtain ⟨d, hd⟩ : ∃ d : Nat, (lOf p).getD k 0 = (d : Int) := ⟨((lOf p).getD k 0).toNat, by omega⟩
                rw [hd] at hc hbd
                rcases Nat.eq_zero_or_pos d with hd0 | hd0
                · have hdz : decide ((0 : Int) < (d : Int)) = false := decide_eq_false (by omega)
                  have hdz2 : decide (0 < d) = false := decide_eq_false (by omega)
                  have HS := Lib.hid (HU.out.skip (by rw [hd, hd0]; rfl))
                  clear hd hd0
                  go_wp2_with fail
                  go_roundw
                  case rel => exact ⟨k + 1, by omega, by go_num, HS⟩
                  case measure => simp [intOf]; omega
                · have hdz : decide ((0 : Int) < (d : Int)) = true := decide_eq_true (by omega)
                  have hdz2 : decide (0 < d) = true := decide_eq_true (by omega)
                  have hcb := code_bound (lOf p) hfit.2 k hkl (by rw [hd]; omega) (by rw [hd]; omega)
                  rw [hd, Int.toNat_natCast] at hcb
                  have hcb2 : code (lOf p) k < 2 ^ 24 := Nat.lt_of_lt_of_le hcb (Nat.pow_le_pow_right (by decide) (by omega))
                  have HD := Lib.hid hd; have HD0 := Lib.hid hd0
                  have hc62 : code (lOf p) k ≤ 4611686018427387904 := by omega
                  have hd62 : d ≤ 4611686018427387904 := by omega
                  have hk62 : k ≤ 4611686018427387904 := by omega
                  have hkm : k < maxLen := by unfold maxLen; omega
                  have HKL := Lib.hid hkl
                  clear hd hd0 hcb hcb2 hkl
                  go_wp2_with (at_mapUpdate; refine wpList_storeP _ rfl _ _ _ 125 rfl 126 3 3 arrP Try.underlying3 sizeP Try.underlying125 Try.underlying3 B k (findTo (lOf p) k) rfl HU.out.map hkm d (code (lOf p) k) k rfl rfl hd62 hc62 hk62 ?_; intro w6 hm6 hg6)
                  have HS := Lib.hid (HU.out.put HKL.out HD.out HD0.out hg6 hm6)
                  clear hm6 hg6
                  go_wp2_with fail
                  go_roundw
                  case rel => exact ⟨k + 1, by omega, by go_num, HS⟩
                  case measure => simp [intOf]; omega
              · have hk256 : (k : Int) = 256 := by omega
                rw [hk256]
                clear hk256
                obtain rfl : k = 256 := by omega
                have hd6 : decide (((256 : Nat) : Int) < 256) = false := by decide
                go_wp2_with fail
                obtain ⟨B2, hB2⟩ : ∃ B2, B2 = wr.heap.size := ⟨_, rfl⟩
                have HR0 : Hid (UR w wr B B2 (lOf p) none 0 []) := Lib.hid
                  ⟨Owns.nil _ _ _ _, HU.out.map, HU.out.below, by rw [hB2]; exact HU.out.map.lt, HU.out.hb, by rw [hB2]; exact Nat.le_refl _, by simp⟩
                have HDC0 : Hid (Huff.decode (lOf p) (qOf p) N 2072 = (Huff.decode (lOf p) (qOf p) (N - ([] : List Nat).length) 2072).map (([] : List Nat) ++ ·)) := Lib.hid (by simp)
                clear HU hB2
                go_loopw [12, 13] (fun v12 v13 wr => ∃ (o : List Nat) (at_ : Nat) (a : Option Addr) (c : Nat), v12 = .slice a o.length c ∧ v13 = .int .i64 at_ ∧ o.length ≤ N ∧ at_ ≤ 8 * p.length ∧ Hid (Huff.decode (lOf p) (qOf p) N 2072 = (Huff.decode (lOf p) (qOf p) (N - o.length) at_).map (o ++ ·)) ∧ Hid (UR w wr B B2 (lOf p) a c o)) (fun v12 _ _ => N - slen v12)
                case atStart => exact ⟨[], 2072, none, 0, rfl, rfl, Nat.zero_le _, by omega, HDC0, HR0⟩
                case round =>
                  clear HDC0 HR0
                  obtain ⟨o, at_, a, c, rfl, rfl, hoN, hat, HDC, HR⟩ := hrel
                  by_cases hlt : o.length < N
                  · have d1 : decide ((o.length : Int) < (N : Int)) = true := decide_eq_true (by omega)
                    have d1n : decide (o.length < N) = true := decide_eq_true hlt
                    have HLT := Lib.hid hlt
                    clear hlt
                    go_wp2_with fail
                    have hRS0 : Hid (RS (lOf p) (qOf p) at_ o 1 0 at_ false o) := Lib.hid ⟨fun _ => ⟨rfl, rfl⟩, fun h => by cases h⟩
                    have hv0 : Hid ((0 : Nat) < 2 ^ (1 - 1)) := Lib.hid (by decide)
                    go_loopw [12, 13, 14, 15, 16] (fun v12 v13 v14 v15 v16 wr => ∃ (k v at' : Nat) (f : Bool) (o' : List Nat) (a : Option Addr) (c : Nat), v12 = .slice a o'.length c ∧ v13 = .int .i64 at' ∧ v14 = .int .i64 v ∧ v15 = .bool f ∧ v16 = .int .i64 k ∧ 1 ≤ k ∧ k ≤ 25 ∧ at' ≤ 8 * p.length ∧ Hid (v < 2 ^ (k - 1)) ∧ Hid (RS (lOf p) (qOf p) at_ o k v at' f o') ∧ Hid (UR w wr B B2 (lOf p) a c o')) (fun _ _ _ _ v16 _ => 25 - (intOf v16).toNat)
                    case atStart => exact ⟨1, 0, at_, false, o, a, c, rfl, rfl, rfl, rfl, rfl, by omega, by omega, hat, hv0, hRS0, HR⟩
                    case round =>
                      clear hRS0 hv0 HR
                      obtain ⟨k, v, at', f, o', a', c', rfl, rfl, rfl, rfl, rfl, hk1, hk25, hat', HV, HRS, HR⟩ := hrel
                      cases f with
                      | true =>
                        obtain ⟨x, hx, ho', hdg⟩ := HRS.out.2 rfl
                        have HX := Lib.hid hx; have HO' := Lib.hid ho'; have HDG := Lib.hid hdg
                        clear hx ho' hdg HRS HV
                        by_cases hk24 : k ≤ 24
                        · have dk : decide ((k : Int) ≤ 24) = true := decide_eq_true (by omega)
                          have dkn : decide (k ≤ 24) = true := decide_eq_true (by omega)
                          clear hk24
                          go_wp2_with fail
                          go_roundw
                          case rel =>
                            have hl' : o'.length = o.length + 1 := by rw [HO'.out, List.length_append]; rfl
                            have hlt := HLT.out
                            refine ⟨o', at', a', c', rfl, rfl, by omega, hat', ?_, HR⟩
                            refine Lib.hid ?_
                            rw [HDC.out, HO'.out, List.length_append, show N - o.length = (N - (o.length + [x].length)) + 1 by rw [List.length_singleton]; omega, decode_step _ _ _ _ _ _ HDG.out, Option.map_map]
                            congr 1
                            funext z
                            simp
                          case measure =>
                            have hl' : o'.length = o.length + 1 := by rw [HO'.out, List.length_append]; rfl
                            have hlt := HLT.out
                            show N - o'.length < N - o.length
                            omega
                        · have dk : decide ((k : Int) ≤ 24) = false := decide_eq_false (by omega)
                          have dkn : decide (k ≤ 24) = false := decide_eq_false (by omega)
                          clear hk24
                          go_wp2_with fail
                          go_roundw
                          case rel =>
                            have hl' : o'.length = o.length + 1 := by rw [HO'.out, List.length_append]; rfl
                            have hlt := HLT.out
                            refine ⟨o', at', a', c', rfl, rfl, by omega, hat', ?_, HR⟩
                            refine Lib.hid ?_
                            rw [HDC.out, HO'.out, List.length_append, show N - o.length = (N - (o.length + [x].length)) + 1 by rw [List.length_singleton]; omega, decode_step _ _ _ _ _ _ HDG.out, Option.map_map]
                            congr 1
                            funext z
                            simp
                          case measure =>
                            have hl' : o'.length = o.length + 1 := by rw [HO'.out, List.length_append]; rfl
                            have hlt := HLT.out
                            show N - o'.length < N - o.length
                            omega
                      | false =>
                        by_cases hgo : k ≤ 24 ∧ at' < 8 * p.length
                        · obtain ⟨hk24, hal⟩ := hgo
                          have dk : decide ((k : Int) ≤ 24) = true := decide_eq_true (by omega)
                          have dkn : decide (k ≤ 24) = true := decide_eq_true (by omega)
                          have da : decide ((at' : Int) < 8 * (p.length : Int)) = true := decide_eq_true (by omega)
                          have dan : decide (at' < 8 * p.length) = true := decide_eq_true hal
                          have hal8 : at' / 8 < p.length := by omega
                          have hxb : ∀ h : at' / 8 < (bstr p).size, ((bstr p)[at' / 8]'h).toNat = (qOf p).getD (at' / 8) 0 := fun h => by
                            rw [qOf_get p _ hal8, List.getD_eq_getElem?_getD, List.getElem?_eq_getElem hal8]; rfl
                          have hba : bitAt (qOf p) at' = (qOf p).getD (at' / 8) 0 / 2 ^ (7 - at' % 8) % 2 := rfl
                          have hbl : bitAt (qOf p) at' ≤ 1 := by rw [hba]; omega
                          have hvv : 2 * v + bitAt (qOf p) at' < 2 ^ (k + 1 - 1) := by
                            have h1 := HV.out
                            have h2 : 2 ^ (k + 1 - 1) = 2 ^ (k - 1) * 2 := by rw [show k + 1 - 1 = (k - 1) + 1 by omega, Nat.pow_succ]
                            omega
                          have hv24 : 2 * v + bitAt (qOf p) at' < 2 ^ 24 := Nat.lt_of_lt_of_le hvv (Nat.pow_le_pow_right (by decide) (by omega))
                          have hstep := dgo_step (lOf p) (qOf p) (25 - (k + 1)) k v at' (by unfold qOf; rw [List.length_map]; exact hal)
                          rw [show 25 - (k + 1) + 1 = 25 - k by omega] at hstep
                          have hrs := (HRS.out.1 rfl).2
                          have hoo := (HRS.out.1 rfl).1
                          rw [hstep] at hrs
                          have hxl : (qOf p).getD (at' / 8) 0 < 256 := by rw [qOf_get p _ hal8]; exact UInt8.toNat_lt _
                          generalize (qOf p).getD (at' / 8) 0 = x at *
                          have hvor : bits .or .i64 (wrap64 ((v : Int) * 2)) (wrap64 (bits .and .u8 ((x : Int) / 2 ^ (7 - at' % 8)) 1)) = ((2 * v + bitAt (qOf p) at' : Nat) : Int) := by
                            rw [hba]
                            exact or_step v x (7 - at' % 8) (by omega) hxl
                          have HVV := Lib.hid hvv; have HBA := Lib.hid hba
                          clear hvv hba hstep HRS HV
                          obtain ⟨V2, hV2⟩ : ∃ V2, V2 = 2 * v + bitAt (qOf p) at' := ⟨_, rfl⟩
                          rw [← hV2] at hvor hrs hv24
                          have HV2 := Lib.hid hV2
                          clear hV2 hbl
                          have hlook := HR.out.map.look (t := 125) arrP Try.underlying3 sizeP Try.underlying125 Try.underlying3 (by kernel_rfl) k V2 (Nat.le_trans hk24 (by decide)) (Nat.le_of_lt (Nat.lt_trans hv24 (by decide)))
                          have hfa := findTo_all (lOf p) k V2 (by omega)
                          rw [HLL.out] at hfa
                          rw [hfa] at hlook
                          clear hfa
                          cases hfs : findSym (lOf p) k V2 with
                          | none =>
                            rw [hfs] at hrs hlook
                            simp only [Option.getD_none, Option.isSome_none] at hlook hrs
                            have HRS2 : Hid (RS (lOf p) (qOf p) at_ o (k + 1) V2 (at' + 1) false o') := Lib.hid ⟨(fun _ => ⟨hoo, hrs⟩), (fun h => by cases h)⟩
                            have HVV2 : Hid (V2 < 2 ^ (k + 1 - 1)) := Lib.hid (by rw [HV2.out]; exact HVV.out)
                            clear hfs hrs hoo
                            go_wp2_with fail
                            go_roundw
                            case rel => exact ⟨k + 1, V2, at' + 1, false, o', a', c', rfl, by go_num, rfl, rfl, by go_num, by omega, by omega, by omega, HVV2, HRS2, HR⟩
                            case measure => simp [intOf]; omega
                          | some cs =>
                            rw [hfs] at hrs hlook
                            simp only [Option.getD_some, Option.isSome_some] at hlook hrs
                            have hcl : cs < 256 := by
                              unfold findSym at hfs
                              have := List.mem_range.1 (List.mem_of_find?_eq_some hfs)
                              rw [HLL.out] at this; exact this
                            have HRS2 : Hid (RS (lOf p) (qOf p) at_ o (k + 1) V2 (at' + 1) true (o' ++ [cs])) := Lib.hid ⟨(fun h => by cases h), (fun _ => ⟨cs, hcl, by rw [hoo], hrs⟩)⟩
                            have HVV2 : Hid (V2 < 2 ^ (k + 1 - 1)) := Lib.hid (by rw [HV2.out]; exact HVV.out)
                            have hol : o'.length ≤ 4000 := by rw [hoo]; exact Nat.le_trans hoN hn4
                            have hml : o'.length + 1 ≤ maxLen := by unfold maxLen; omega
                            have hby : (o'.length + 1) * 1 ≤ 140737488355328 := by omega
                            have hBz := HR.out.size
                            have hw8 : IntKind.u8.wrap (cs : Int) = (cs : Int) := by rw [IntKind.wrap_u8]; omega
                            have HCL := Lib.hid hcl
                            clear hfs hrs hoo hol hcl
                            go_wp2_with (with_reducible refine wpList_push _ rfl _ _ 79 rfl B2 5 (.int .u8 0) 1 1 Try.underlying79 infoU8 rfl (by decide) a' o'.length c' _ rfl HR.out.own [.int .u8 (cs : Nat)] rfl (by simp [Value.oneCell']) rfl hml hby hBz ?_; intro a5 c5 w5 hown5 hgrow5 hloc5 hsz5 hex5)
                            have HR5 := Lib.hid (HR.out.push HCL.out hown5 hgrow5)
                            clear hown5 hgrow5 hloc5 hsz5 hex5
                            go_wp2_with fail
                            go_roundw
                            case rel => exact ⟨k + 1, V2, at' + 1, true, o' ++ [cs], a5, c5, by rw [List.length_append]; rfl, by go_num, rfl, rfl, by go_num, by omega, by omega, by omega, HVV2, HRS2, HR5⟩
                            case measure => simp [intOf]; omega
                        · have hnone : dgo (lOf p) (qOf p) 24 1 0 at_ = none := by
                            rw [(HRS.out.1 rfl).2]
                            by_cases hal : at' < 8 * p.length
                            · rw [show 25 - k = 0 by omega]; rfl
                            · exact dgo_end _ _ _ _ _ _ (by unfold qOf; rw [List.length_map]; exact hal)
                          have hdno : Huff.decode (lOf p) (qOf p) N 2072 = none := by
                            have hlt := HLT.out
                            rw [HDC.out, show N - o.length = (N - o.length - 1) + 1 by omega, decode_stop _ _ _ _ hnone]; rfl
                          have hup := unpackP_dec p h259' hfit (by rw [← HN.out]; exact hn4)
                          rw [← HN.out, hdno] at hup
                          simp only at hup
                          have HUP := Lib.hid hup
                          clear hup hdno hnone HRS HDC HV
                          by_cases hk24 : k ≤ 24
                          · have dk : decide ((k : Int) ≤ 24) = true := decide_eq_true (by omega)
                            have dkn : decide (k ≤ 24) = true := decide_eq_true (by omega)
                            have da : decide ((at' : Int) < 8 * (p.length : Int)) = false := decide_eq_false (by omega)
                            have dan : decide (at' < 8 * p.length) = false := decide_eq_false (by omega)
                            clear hgo hk24
                            go_wp2_with fail
                            go_ret2
                            refine ⟨?_, HR.out.below⟩
                            unfold UnpackOut
                            rw [HUP.out]
                            exact ⟨_, _, rfl⟩
                          · have dk : decide ((k : Int) ≤ 24) = false := decide_eq_false (by omega)
                            have dkn : decide (k ≤ 24) = false := decide_eq_false (by omega)
                            clear hgo hk24
                            go_wp2_with fail
                            go_ret2
                            refine ⟨?_, HR.out.below⟩
                            unfold UnpackOut
                            rw [HUP.out]
                            exact ⟨_, _, rfl⟩
                  · have d1 : decide ((o.length : Int) < (N : Int)) = false := decide_eq_false (by omega)
                    have d1n : decide (o.length < N) = false := decide_eq_false hlt
                    have hoN2 : o.length = N := by omega
                    have hcv := conv_ownH (nvals_bvals _ HR.out.small ▸ HR.out.own)
                    have hdc : Huff.decode (lOf p) (qOf p) N 2072 = some o := by
                      have h1 := HDC.out
                      rw [hoN2, Nat.sub_self] at h1
                      rw [h1]
                      show (some []).map (o ++ ·) = _
                      simp
                    have HON := Lib.hid hoN2
                    clear hoN2 hoN hlt
                    have hup := unpackP_dec p h259' hfit (by rw [← HN.out]; exact hn4)
                    rw [← HN.out, hdc] at hup
                    simp only at hup
                    have HUP := Lib.hid hup
                    clear hup hdc HDC
                    go_wp2_with fail
                    refine (Pack_any HLE (o.map UInt8.ofNat) wr (by rw [List.length_map, HON.out]; exact hn4)).mono ?_
                    rintro e w7 ⟨rfl, hb7⟩
                    have HB7 := Lib.hid (HR.out.below.trans (hb7.mono HR.out.below.size))
                    have hcv7 := conv_ownH (nvals_bvals _ HR.out.small ▸ HR.out.own.below hb7 (Nat.le_refl _))
                    clear hb7
                    by_cases heq : packed (o.map UInt8.ofNat) = qOf p
                    · have hq : (packed (o.map UInt8.ofNat)).map UInt8.ofNat = p := by rw [heq]; exact ofNat_toNat p
                      have HUQ : Hid (unpackP p = some (o.map UInt8.ofNat)) := Lib.hid (by rw [HUP.out, if_pos heq])
                      rw [hq]
                      clear heq hq HUP
                      go_wp2_with fail
                      go_ret2
                      refine ⟨?_, HB7.out⟩
                      unfold UnpackOut
                      rw [HUQ.out]
                      rfl
                    · have hq : ¬ (packed (o.map UInt8.ofNat)).map UInt8.ofNat = p := fun h => heq (by rw [← h]; exact (toNat_ofNat _ (packed_lt _)).symm)
                      have HUQ : Hid (unpackP p = none) := Lib.hid (by rw [HUP.out, if_neg heq])
                      have hq2 : ((packed (o.map UInt8.ofNat)).map UInt8.ofNat == p) = false := by rw [beq_eq_false_iff_ne]; exact hq
                      clear heq HUP
                      go_wp2_with fail
                      go_ret2
                      refine ⟨?_, HB7.out⟩
                      unfold UnpackOut
                      rw [HUQ.out]
                      exact ⟨_, _, rfl⟩
          · have hd4 : decide ((4000 : Int) < (N : Int)) = true := decide_eq_true (by omega)
            go_wp2_with fail
            go_ret2
            refine ⟨?_, HB4.out⟩
            unfold UnpackOut
            rw [unpackP_bad p (.inr (by rw [← HN.out]; exact hn4))]
            exact ⟨_, _, rfl⟩
        · go_wp2_with fail
          refine (Signs_bad _ 256 256 (lOf p) wr (rd_rowI HR.out) HLL.out (by omega) hfit).mono ?_
          rintro e w3 ⟨k9, rfl, hb3⟩
          have HB3 := Lib.hid (HB.out.trans (hb3.mono HB.out.size))
          clear hb3
          go_wp2_with fail
          go_quiet (fail)
          obtain ⟨w4, hw4⟩ : ∃ w4, w4 = w3.drewN nq := ⟨_, rfl⟩
          rw [← hw4]
          have HB4 : Hid (Below w.heap.size w w4) := Lib.hid (by rw [hw4]; exact bdrewN HB3.out nq)
          clear hw4
          go_wp2_with fail
          go_ret2
          refine ⟨?_, HB4.out⟩
          unfold UnpackOut
          rw [unpackP_bad p (.inl hfit)]
          exact ⟨_, _, rfl⟩
end Go.Proofs.Ytenhblpegobbjaa
