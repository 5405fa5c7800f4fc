/- Contract of package diff: longest. -/
import Derived.Test.YtmmkbjinkdgdbaaDiffA
namespace Go.Proofs.Ytmmkbjinkdgdbaa
open Go.RowKit
set_option linter.unusedVariables false
set_option linter.unusedSimpArgs false
namespace Diff
/-- the longest text of both, in their order -/
def lg : List UInt8 → List UInt8 → Nat
  | [], _ => 0
  | _ :: _, [] => 0
  | x :: a, y :: b => if x = y then lg a b + 1 else max (lg a (y :: b)) (lg (x :: a) b)
theorem lg_nil (a : List UInt8) : lg a [] = 0 := by cases a <;> simp [lg]
theorem lg_le (a b : List UInt8) : lg a b ≤ a.length ∧ lg a b ≤ b.length := by
  fun_induction lg a b with
  | case1 b => simp
  | case2 x a => simp
  | case3 x a b ih => simp only [List.length_cons]; omega
  | case4 x a y b h ih1 ih2 => simp only [List.length_cons] at ih1 ih2 ⊢; omega
/-- .. of their ends -/
def L (a b : List UInt8) (i j : Nat) : Nat := lg (a.drop i) (b.drop j)
theorem L_end (a b : List UInt8) (i j : Nat) (h : a.length ≤ i ∨ b.length ≤ j) : L a b i j = 0 := by
  unfold L
  rcases h with h | h
  · rw [List.drop_eq_nil_of_le h]; simp [lg]
  · rw [List.drop_eq_nil_of_le h]; exact lg_nil _
theorem L_step (a b : List UInt8) (i j : Nat) (hi : i < a.length) (hj : j < b.length) : L a b i j = if a.getD i 0 = b.getD j 0 then L a b (i + 1) (j + 1) + 1 else max (L a b (i + 1) j) (L a b i (j + 1)) := by
  unfold L
  have ea : a.drop i = a.getD i 0 :: a.drop (i + 1) := by
    rw [List.drop_eq_getElem_cons hi, List.getD_eq_getElem?_getD, List.getElem?_eq_getElem hi]; rfl
  have eb : b.drop j = b.getD j 0 :: b.drop (j + 1) := by
    rw [List.drop_eq_getElem_cons hj, List.getD_eq_getElem?_getD, List.getElem?_eq_getElem hj]; rfl
  rw [ea, eb, lg]
theorem L_le (a b : List UInt8) (i j : Nat) : L a b i j ≤ a.length := by
  have := (lg_le (a.drop i) (b.drop j)).1
  rw [List.length_drop] at this
  unfold L; omega
end Diff
/-- a row of numbers, told by a function -/
def frow (m : Nat) (f : Nat → Nat) : List Value := (List.range (m + 1)).map fun c => Value.int .i64 (f c : Nat)
theorem frow_length (m : Nat) (f : Nat → Nat) : (frow m f).length = m + 1 := by simp [frow]
theorem frow_get (m : Nat) (f : Nat → Nat) (c : Nat) (h : c < (frow m f).length) : (frow m f)[c] = .int .i64 (f c : Nat) := by simp [frow]
/-- a function that is another at one place -/
def updN (f : Nat → Nat) (c v : Nat) : Nat → Nat := fun x => if x = c then v else f x
theorem frow_set (m : Nat) (f : Nat → Nat) (c v : Nat) : (frow m f).set c (.int .i64 (v : Nat)) = frow m (updN f c v) := by
  refine List.ext_getElem (by simp [frow]) fun i h1 h2 => ?_
  rw [List.getElem_set]
  by_cases h : c = i
  · subst h; rw [if_pos rfl, frow_get]; simp [updN]
  · rw [if_neg h, frow_get, frow_get]
    simp [updN, show i ≠ c from fun e => h e.symm]
/-- the rows of a table -/
def rowsOf (g n m : Nat) : List Value := (List.range (n + 1)).map fun r => Value.slice (some ⟨g + 1 + r, 0, none⟩) (m + 1) (m + 1)
theorem rowsOf_get (g n m r : Nat) (h : r < (rowsOf g n m).length) : (rowsOf g n m)[r] = .slice (some ⟨g + 1 + r, 0, none⟩) (m + 1) (m + 1) := by simp [rowsOf]
/-- a table of n + 1 rows of m + 1 numbers each, laid in blocks from g on -/
def Tab (w : World) (g n m : Nat) (F : Nat → Nat → Nat) : Prop :=
  RowAt w g 0 68 (rowsOf g n m) ∧ ∀ r, r ≤ n → RowAt w (g + 1 + r) 0 3 (frow m (F r))
section
variable {w w' : World} {g n m : Nat} {F : Nat → Nat → Nat}
theorem Tab.row (h : Tab w g n m F) (r : Nat) (hr : r ≤ n) : w.cell? ⟨g, r, none⟩ = some (.slice (some ⟨g + 1 + r, 0, none⟩) (m + 1) (m + 1)) := by
  have := h.1.cell0 r (by simp [rowsOf]; omega)
  rwa [rowsOf_get] at this
theorem Tab.cell (h : Tab w g n m F) (r c : Nat) (hr : r ≤ n) (hc : c ≤ m) : w.cell? ⟨g + 1 + r, c, none⟩ = some (.int .i64 (F r c : Nat)) := by
  have := (h.2 r hr).cell0 c (by rw [frow_length]; omega)
  rwa [frow_get] at this
theorem Tab.frozen (h : Tab w g n m F) (r c : Nat) (hr : r ≤ n) (hc : c ≤ m) : w.frozen? ⟨g + 1 + r, c, none⟩ = false :=
  (h.2 r hr).frozen0 c (by rw [frow_length]; omega)
theorem Tab.below {B : Nat} (h : Tab w g n m F) (hb : Below B w w') (hg : g + 1 + n < B) : Tab w' g n m F :=
  ⟨h.1.below hb (by omega), fun r hr => (h.2 r hr).below hb (by omega)⟩
theorem Tab.lt (h : Tab w g n m F) : g + 1 + n < w.heap.size := (h.2 n (Nat.le_refl _)).lt
theorem Tab.drewN (h : Tab w g n m F) (k : Nat) : Tab (w.drewN k) g n m F := h
theorem Tab.drew (h : Tab w g n m F) : Tab w.drew g n m F := h
theorem Tab.set (h : Tab w g n m F) (r c v : Nat) (hr : r ≤ n) (hc : c ≤ m) : Tab (w.setCell ⟨g + 1 + r, c, none⟩ (.int .i64 (v : Nat))) g n m (fun r' => if r' = r then updN (F r) c v else F r') := by
  refine ⟨h.1.far (by simp; omega) _, fun r' hr' => ?_⟩
  by_cases e : r' = r
  · subst e
    simp only [if_pos]
    rw [← frow_set]
    exact (h.2 r' hr').set0 c (by rw [frow_length]; omega) _
  · simp only [if_neg e]
    exact (h.2 r' hr').far (by simp; omega) _
end
theorem infoSl : (Try.prog.info? 68).map (fun i => (i.zero, i.size, i.bytes)) = some (some (.slice none 0 0), 1, 24) := by kernel_rfl
theorem infoIn : (Try.prog.info? 3).map (fun i => (i.zero, i.size, i.bytes)) = some (some (.int .i64 0), 1, 8) := by kernel_rfl
/-- 'make([]T, n)', elements of one cell: just one block more -/
theorem wpList_make1 {P : Program} (w : World) {ops : Array Oper} {rest : List Oper} {o : Oper} {a : Act} {Q : Exit → Act → World → Prop} (hg : o.guard = none) (l c : Operand) (t : TypeId)
    (hop : o.op = Op.makeSlice t l c) (e : TypeId) (i : TypeInfo) (z : Value) (h1 : P.underlying t = some (.slice e)) (h2 : P.info? e = some i) (h3 : i.zero = some z) (h4 : i.size = 1) (h5 : z.cells = #[z])
    (kl kc : IntKind) (L C : Int) (n : Nat) (hl : a.eval l = .int kl L) (hc : a.eval c = .int kc C) (hL : L = (n : Int)) (hC : C = (n : Int)) (b2 : i.bytes * n ≤ 281474976710656) (b3 : n ≤ maxLen)
    (hK : ∀ w', RowAt w' w.heap.size 0 e (List.replicate n z) → Below w.heap.size w w' → w'.heap.size = w.heap.size + 1 → wpList P ops Q rest (a.put o.dst (.slice (some ⟨w.heap.size, 0, none⟩) n n)) w') :
    wpList P ops Q (o :: rest) a w := by
  refine wpList_plain hg fun K hK' => ?_
  subst hL hC
  have h63' : (n : Int) ≤ 9223372036854775807 := by
    have h := b3
    simp [maxLen] at h
    omega
  have hb' : (i.bytes : Int) * (n : Int) ≤ 281474976710656 := by
    have h : ((i.bytes * n : Nat) : Int) ≤ 281474976710656 := by omega
    rwa [Int.natCast_mul] at h
  have hrun := run_make (P := P) w t e i z h1 h2 h3 kl kc n n (by omega) (Int.le_refl _) hb' h63'
  simp only [Int.toNat_natCast, h4, Nat.mul_one] at hrun
  have hr := RowAt.new w e (madeCells z.cells n)
  rw [h5, toList_madeCells_one] at hr
  rw [h5] at hrun
  unfold Oper.wp
  simp only [execOp, hop, hl, hc, Sem.run_bind, hrun, Result.andThen_ok, Sem.run_pure]
  exact hK' _ _ (hK _ hr ((Below.refl _ _).alloc (Nat.le_refl _) _) (by simp))
set_option maxHeartbeats 2000000 in
set_option maxRecDepth 100000 in
theorem longest_any (a b : List UInt8) (w : World) (hlen : a.length + b.length ≤ 4000) :
    Calls Try.prog 85 #[.string (bstr a), .string (bstr b)] w fun e w' => ∃ g, e = .returned (.slice (some ⟨g, 0, none⟩) (a.length + 1) (a.length + 1)) ∧ w.heap.size ≤ g ∧ Tab w' g a.length b.length (Diff.L a b) ∧ Below w.heap.size w w' := by
  obtain ⟨i0, hi, hz0, hz1, hz2⟩ := info_parts infoSl
  obtain ⟨j0, hj, hy0, hy1, hy2⟩ := info_parts infoIn
  obtain ⟨B, hB⟩ : ∃ B, B = w.heap.size := ⟨_, rfl⟩
  rw [← hB]
  have HB := Lib.hid hB; clear hB
  have HK1 := Lib.hid (show (a.length : Int) + 1 = ((a.length + 1 : Nat) : Int) by simp)
  have HK2 := Lib.hid (show (b.length : Int) + 1 = ((b.length + 1 : Nat) : Int) by simp)
  have b2 : i0.bytes * (a.length + 1) ≤ 281474976710656 := by rw [hz2]; omega
  have b3 : a.length + 1 ≤ maxLen := by unfold maxLen; omega
  have c2 : j0.bytes * (b.length + 1) ≤ 281474976710656 := by rw [hy2]; omega
  have c3 : b.length + 1 ≤ maxLen := by unfold maxLen; omega
  go_enter Try.func85, Try.ntmps85
  go_wp2_with (with_reducible refine wpList_make1 _ rfl _ _ 140 rfl 68 i0 (.slice none 0 0) Try.underlying140 hi hz0 hz1 rfl .i64 .i64 _ _ (a.length + 1) rfl rfl HK1.out HK1.out b2 b3 ?_; intro w1 hrow1 hb1 hs1)
  rw [← HB.out] at hrow1 hb1 hs1 ⊢
  go_loopw [15] (fun v15 wr => ∃ i : Nat, i ≤ a.length + 1 ∧ v15 = .int .i64 i ∧ Hid (RowAt wr B 0 68 ((rowsOf B a.length b.length).take i ++ List.replicate (a.length + 1 - i) (.slice none 0 0)) ∧ (∀ r, r < i → RowAt wr (B + 1 + r) 0 3 (frow b.length fun _ => 0)) ∧ wr.heap.size = B + 1 + i) ∧ Below B w wr) (fun v15 _ => a.length + 1 - (intOf v15).toNat)
  case atStart => exact ⟨0, by omega, rfl, Lib.hid ⟨by simpa using hrow1, fun r hr => by omega, hs1⟩, hb1⟩
  case round =>
    clear hrow1 hb1 hs1
    obtain ⟨i, hi1, rfl, HS, hbe⟩ := hrel
    by_cases hlt : i < a.length + 1
    · have hd : decide ((i : Int) < ((a.length + 1 : Nat) : Int)) = true := by rw [decide_eq_true_eq]; omega
      have hd' : decide ((i : Int) < (a.length : Int) + 1) = true := by rw [decide_eq_true_eq]; omega
      obtain ⟨h1, h2, h3⟩ := HS.out
      have hxl : ((rowsOf B a.length b.length).take i ++ List.replicate (a.length + 1 - i) (Value.slice none 0 0)).length = a.length + 1 := by simp [rowsOf]; omega
      have hxg : ((rowsOf B a.length b.length).take i ++ List.replicate (a.length + 1 - i) (Value.slice none 0 0))[i]'(by rw [hxl]; exact hlt) = .slice none 0 0 := by
        rw [List.getElem_append_right (by simp [rowsOf]; omega)]; simp
      have hset : ((rowsOf B a.length b.length).take i ++ List.replicate (a.length + 1 - i) (Value.slice none 0 0)).set i (.slice (some ⟨B + 1 + i, 0, none⟩) (b.length + 1) (b.length + 1)) = (rowsOf B a.length b.length).take (i + 1) ++ List.replicate (a.length + 1 - (i + 1)) (.slice none 0 0) := by
        have hl : ((rowsOf B a.length b.length).take i).length = i := by simp [rowsOf]; omega
        rw [List.set_append_right _ _ (by omega), hl, Nat.sub_self, show a.length + 1 - i = (a.length + 1 - (i + 1)) + 1 by omega, List.replicate_succ, List.set_cons_zero, List.take_succ_eq_append_getElem (by simp [rowsOf]; omega), rowsOf_get, List.append_assoc]
        rfl
      generalize (rowsOf B a.length b.length).take i ++ List.replicate (a.length + 1 - i) (Value.slice none 0 0) = X at *
      have HSET := Lib.hid hset; clear hset
      have hc1 := h1.cell0 i (by omega)
      rw [hxg] at hc1
      clear hxg
      have HX := Lib.hid hxl; clear hxl
      have HR2 := Lib.hid h2; clear h2
      go_wp2_with (with_reducible refine wpList_make1 _ rfl _ _ 68 rfl 3 j0 (.int .i64 0) Try.underlying68 hj hy0 hy1 rfl .i64 .i64 _ _ (b.length + 1) rfl rfl HK2.out HK2.out c2 c3 ?_; intro w2 hrow2 hb2 hs2; have hr2 := h1.below hb2 h1.lt; have hcl := (hb2.cell (p := ⟨B, i, none⟩) h1.lt).trans hc1; have hfz := hr2.frozen0 i (by rw [HX.out]; exact hlt))
      go_roundw
      case rel =>
        refine ⟨i + 1, by omega, by go_num, Lib.hid ⟨?_, fun r hr => ?_, ?_⟩, ?_⟩
        · have := hr2.set0 i (by rw [HX.out]; exact hlt) (.slice (some ⟨B + 1 + i, 0, none⟩) (b.length + 1) (b.length + 1))
          rw [HSET.out] at this
          exact this
        · by_cases e : r = i
          · subst e
            have h0 : List.replicate (b.length + 1) (Value.int .i64 0) = frow b.length fun _ => 0 := by simp [frow, List.map_const']
            rw [h0, h3] at hrow2
            exact hrow2.far (by simp; omega) _
          · exact ((HR2.out r (by omega)).below hb2 (by omega)).far (by simp; omega) _
        · simp; omega
        · exact (hbe.trans (hb2.mono (by omega))).setCell (p := ⟨B, i, none⟩) (Nat.le_refl _) _
      case measure => simp [intOf]; omega
    · obtain rfl : i = a.length + 1 := by omega
      have hd' : decide ((a.length : Int) + 1 < (a.length : Int) + 1) = false := by simp
      obtain ⟨h1, h2, h3⟩ := HS.out
      rw [List.take_of_length_le (by simp [rowsOf]), Nat.sub_self, List.replicate_zero, List.append_nil] at h1
      have htab : Tab wr B a.length b.length (fun _ _ => 0) := ⟨h1, fun r hr => h2 r (by omega)⟩
      clear h1 h2 HS
      have HT := Lib.hid htab; clear htab
      clear h3
      clear hi hz0 hz1 hz2 hj hy0 hy1 hy2 b2 b3 c2 c3 hlt hi1
      rw [← HK1.out]
      go_wp2_with fail
      go_loopw [7] (fun v7 wi => ∃ (I : Nat) (F : Nat → Nat → Nat), I ≤ a.length ∧ v7 = .int .i64 ((I : Int) - 1) ∧ Hid (Tab wi B a.length b.length F) ∧ Hid (∀ r c, r ≤ a.length → c ≤ b.length → I ≤ r ∨ c = b.length → F r c = Diff.L a b r c) ∧ Below B w wi) (fun v7 _ => (intOf v7 + 1).toNat)
      case atStart =>
        refine ⟨a.length, _, Nat.le_refl _, rfl, HT, Lib.hid (fun r c hr hc h => ?_), hbe⟩
        rw [Diff.L_end a b r c (by omega)]
      case round =>
        clear HT hbe
        obtain ⟨I, F, hI, rfl, HT, HF, hbe⟩ := hrel
        cases I with
        | zero =>
          have hF : F = F := rfl
          have htab : Tab wr B a.length b.length (Diff.L a b) := by
            refine ⟨HT.out.1, fun r hr => ?_⟩
            have h := HT.out.2 r hr
            have e : frow b.length (F r) = frow b.length (Diff.L a b r) := by
              refine List.ext_getElem (by simp [frow]) fun i h1 h2 => ?_
              rw [frow_get, frow_get, HF.out r i hr (by rw [frow_length] at h1; omega) (.inl (Nat.zero_le _))]
            rw [e] at h
            exact h
          have HTT := Lib.hid htab; clear htab HT HF hF
          have hd : decide ((0 : Int) ≤ ((0 : Nat) : Int) - 1) = false := by decide
          go_wp2_with fail
          go_ret
          exact ⟨B, rfl, Nat.le_refl _, HTT.out, hbe⟩
        | succ p =>
          have ep : (((p + 1 : Nat) : Int) - 1) = (p : Int) := by omega
          rw [ep]
          clear ep
          have hd : decide ((0 : Int) ≤ (p : Int)) = true := by rw [decide_eq_true_eq]; omega
          go_wp2_with fail
          go_loopw [8] (fun v8 wj => ∃ (J : Nat) (G : Nat → Nat → Nat), J ≤ b.length ∧ v8 = .int .i64 ((J : Int) - 1) ∧ Hid (Tab wj B a.length b.length G) ∧ Hid (∀ r c, r ≤ a.length → c ≤ b.length → p + 1 ≤ r ∨ (r = p ∧ J ≤ c) ∨ c = b.length → G r c = Diff.L a b r c) ∧ Below B w wj) (fun v8 _ => (intOf v8 + 1).toNat)
          case atStart => exact ⟨b.length, F, Nat.le_refl _, rfl, HT, Lib.hid (fun r c hr hc h => HF.out r c hr hc (by omega)), hbe⟩
          case round =>
            clear HT HF hbe
            obtain ⟨J, G, hJ, rfl, HT, HG, hbe⟩ := hrel
            cases J with
            | zero =>
              have hd2 : decide ((0 : Int) ≤ ((0 : Nat) : Int) - 1) = false := by decide
              go_wp2_with fail
              go_roundw
              case rel => exact ⟨p, G, by omega, by go_num, HT, Lib.hid (fun r c hr hc h => HG.out r c hr hc (by omega)), hbe⟩
              case measure => simp [intOf]
            | succ q =>
              have eq : (((q + 1 : Nat) : Int) - 1) = (q : Int) := by omega
              rw [eq]
              clear eq
              have hd2 : decide ((0 : Int) ≤ (q : Int)) = true := by rw [decide_eq_true_eq]; omega
              have hst := Diff.L_step a b p q (by omega) (by omega)
              have g1 := HG.out (p + 1) (q + 1) (by omega) (by omega) (.inl (Nat.le_refl _))
              have g2 := HG.out (p + 1) q (by omega) (by omega) (.inl (Nat.le_refl _))
              have g3 := HG.out p (q + 1) (by omega) (by omega) (.inr (.inl ⟨rfl, Nat.le_refl _⟩))
              have l1 := Diff.L_le a b (p + 1) (q + 1)
              rw [← g1] at l1 hst
              rw [← g2, ← g3] at hst
              clear g1 g2 g3
              have c1 := HT.out.row p (by omega)
              have c2 := HT.out.row (p + 1) (by omega)
              have c3 := HT.out.cell (p + 1) (q + 1) (by omega) (by omega)
              have c4 := HT.out.cell (p + 1) q (by omega) (by omega)
              have c5 := HT.out.cell p (q + 1) (by omega) (by omega)
              have c6 := HT.out.cell p q (by omega) (by omega)
              have f6 := HT.out.frozen p q (by omega) (by omega)
              have x1 : ∀ h : p < (bstr a).size, ((bstr a)[p]'h).toNat = (a.getD p 0).toNat := fun h => by rw [far_at]
              have x2 : ∀ h : q < (bstr b).size, ((bstr b)[q]'h).toNat = (b.getD q 0).toNat := fun h => by rw [far_at]
              have hpI : (p : Int) < (a.length : Int) := by omega
              have hqI : (q : Int) < (b.length : Int) := by omega
              have t1 : IntKind.i64.wrap ((p : Int) + 1) = (p : Int) + 1 := IntWalk.i64_in _ ⟨by omega, by omega⟩
              have t2 : IntKind.i64.wrap ((q : Int) + 1) = (q : Int) + 1 := IntWalk.i64_in _ ⟨by omega, by omega⟩
              have t3 : ((p : Int) + 1).toNat = p + 1 := by omega
              have t4 : ((q : Int) + 1).toNat = q + 1 := by omega
              have t5 : (p : Int) + 1 < (a.length : Int) + 1 := by omega
              have t6 : (q : Int) + 1 < (b.length : Int) + 1 := by omega
              have t7 : (0 : Int) ≤ (p : Int) + 1 := by omega
              have s1 : (p : Int) < (a.length : Int) + 1 := by omega
              have s2 : (q : Int) < (b.length : Int) + 1 := by omega
              have t8 : (0 : Int) ≤ (q : Int) + 1 := by omega
              by_cases he : a.getD p 0 = b.getD q 0
              · rw [if_pos he] at hst
                rw [he] at x1
                clear he
                have HST := Lib.hid hst; clear hst
                have HX := Lib.hid x1; clear x1
                generalize (b.getD q 0).toNat = z at *
                have x1 := HX.out
                have d4 : ((z : Int) == (z : Int)) = true := by simp
                go_wp2_with fail
                go_quiet (fail)
                go_wp2_with fail
                have HTq := HT.out.drewN nq
                have hbq := bdrewN hbe nq
                clear c1 c2 c3 c4 c5 c6 f6
                generalize wr.drewN nq = wq at *
                have c1 := HTq.row p (by omega)
                have c2 := HTq.row (p + 1) (by omega)
                have c3 := HTq.cell (p + 1) (q + 1) (by omega) (by omega)
                have c4 := HTq.cell (p + 1) q (by omega) (by omega)
                have c5 := HTq.cell p (q + 1) (by omega) (by omega)
                have c6 := HTq.cell p q (by omega) (by omega)
                have f6 := HTq.frozen p q (by omega) (by omega)
                go_still_tail 16, (by kernel_rfl)
                change wpList _ _ _ _ _ wq.drew
                go_wp2_with fail
                all_goals
                  go_roundw
                  case rel =>
                    refine ⟨q, fun r => if r = p then updN (G p) q (G (p + 1) (q + 1) + 1) else G r, by omega, by go_num, Lib.hid ?_, Lib.hid (fun r c hr hc h => ?_), (hbq.setCell (p := ⟨B + 1 + p, q, none⟩) (by show B ≤ B + 1 + p; omega) _).drew⟩
                    · have hset := (HTq.set p q (G (p + 1) (q + 1) + 1) (by omega) (by omega)).drew
                      rw [show ((G (p + 1) (q + 1) + 1 : Nat) : Int) = (G (p + 1) (q + 1) : Int) + 1 from by simp] at hset
                      exact hset
                    · by_cases e : r = p
                      · subst e
                        simp only [if_pos]
                        unfold updN
                        by_cases ec : c = q
                        · subst ec
                          rw [if_pos rfl, HST.out]
                        · rw [if_neg ec]; exact HG.out r c hr hc (by omega)
                      · simp only [if_neg e]
                        exact HG.out r c hr hc (by omega)
                  case measure => simp [intOf]
              · rw [if_neg he] at hst
                have hne : ((a.getD p 0).toNat : Int) ≠ ((b.getD q 0).toNat : Int) := fun h => he (UInt8.toNat_inj.mp (by omega))
                have d4 : (((a.getD p 0).toNat : Int) == ((b.getD q 0).toNat : Int)) = false := by rw [beq_eq_false_iff_ne]; exact hne
                clear he hne
                have HST := Lib.hid hst; clear hst
                generalize (a.getD p 0).toNat = z1 at *
                generalize (b.getD q 0).toNat = z2 at *
                go_wp2_with fail
                go_quiet (fail)
                go_wp2_with fail
                have HTq := HT.out.drewN nq
                have hbq := bdrewN hbe nq
                clear c1 c2 c3 c4 c5 c6 f6
                generalize wr.drewN nq = wq at *
                have c1 := HTq.row p (by omega)
                have c2 := HTq.row (p + 1) (by omega)
                have c3 := HTq.cell (p + 1) (q + 1) (by omega) (by omega)
                have c4 := HTq.cell (p + 1) q (by omega) (by omega)
                have c5 := HTq.cell p (q + 1) (by omega) (by omega)
                have c6 := HTq.cell p q (by omega) (by omega)
                have f6 := HTq.frozen p q (by omega) (by omega)
                go_still_tail 23, (by kernel_rfl)
                change wpList _ _ _ _ _ wq.drew
                go_wp2_with fail
                all_goals
                  go_roundw
                  case rel =>
                    refine ⟨q, fun r => if r = p then updN (G p) q (max (G (p + 1) q) (G p (q + 1))) else G r, by omega, by go_num, Lib.hid ?_, Lib.hid (fun r c hr hc h => ?_), (hbq.setCell (p := ⟨B + 1 + p, q, none⟩) (by show B ≤ B + 1 + p; omega) _).drew⟩
                    · have hset := (HTq.set p q (max (G (p + 1) q) (G p (q + 1))) (by omega) (by omega)).drew
                      rw [show ((max (G (p + 1) q) (G p (q + 1)) : Nat) : Int) = (if G (p + 1) q < G p (q + 1) then ((G p (q + 1) : Nat) : Int) else ((G (p + 1) q : Nat) : Int)) from by split <;> omega] at hset
                      exact hset
                    · by_cases e : r = p
                      · subst e
                        simp only [if_pos]
                        unfold updN
                        by_cases ec : c = q
                        · subst ec
                          rw [if_pos rfl, HST.out]
                        · rw [if_neg ec]; exact HG.out r c hr hc (by omega)
                      · simp only [if_neg e]
                        exact HG.out r c hr hc (by omega)
                  case measure => simp [intOf]
end Go.Proofs.Ytmmkbjinkdgdbaa
