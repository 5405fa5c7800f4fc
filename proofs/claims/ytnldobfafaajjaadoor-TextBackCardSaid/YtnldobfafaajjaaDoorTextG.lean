/- text.Narrow. -/
import Derived.Test.YtnldobfafaajjaaDoorTextF
namespace Go.Proofs.YtnldobfafaajjaaDoor
open Go.RowKit Go.Shelf
set_option linter.unusedVariables false
set_option linter.unusedSimpArgs false
attribute [local go_sem] Oper.semAt_some
/-- what has been read stands in a row of the call's own -/
structure NS (w : World) (o : Nat) (l : List UInt8) (pre : List Nat) (a : Option Addr) (c : Nat) (wr : World) : Prop where
  sc : wr.cell? ⟨w.heap.size, 0, none⟩ = some (.string (bstr l))
  oc : wr.cell? ⟨w.heap.size + 1, 0, none⟩ = some (.int .i64 (o : Nat))
  ow : Owns wr (w.heap.size + 2) 3 1 a pre.length c (nvals .i64 pre)
  bel : Below w.heap.size w wr
  sz : w.heap.size + 2 ≤ wr.heap.size
theorem NS.drewN {w : World} {o : Nat} {l : List UInt8} {pre : List Nat} {a : Option Addr} {c : Nat} {wr : World} (h : NS w o l pre a c wr) (k : Nat) : NS w o l pre a c (wr.drewN k) := ⟨h.sc, h.oc, h.ow.drewN k, bdrewN h.bel k, h.sz⟩
theorem NS.push {w : World} {o : Nat} {l : List UInt8} {pre : List Nat} {a : Option Addr} {c : Nat} {w1 w2 : World} {b : Option Addr} {d n : Nat} (h : NS w o l pre a c w1) (ho : Owns w2 (w.heap.size + 2) 3 1 b (pre.length + 1) d (nvals .i64 pre ++ [.int .i64 (n : Nat)])) (hg : w1.grownBy w2 (blk a)) : NS w o l (pre ++ [n]) b d w2 := by
  have hne : ∀ g, g < w.heap.size + 2 → some g ≠ blk a := by
    intro g hg2 e
    cases a with
    | none => cases e
    | some x => have := h.ow.lt.1; have e2 : g = x.block := Option.some.inj e; omega
  have hz := h.sz
  have hcell : ∀ g, g < w.heap.size + 2 → w2.cell? ⟨g, 0, none⟩ = w1.cell? ⟨g, 0, none⟩ := fun g hg2 =>
    World.cell?_of_block (a := ⟨g, 0, none⟩) (hg.block g (by omega) (hne g hg2))
  exact ⟨(hcell _ (by omega)).trans h.sc, (hcell _ (by omega)).trans h.oc, by rw [List.length_append, List.length_singleton, ← nvals_snoc']; exact ho, below_blk h.bel h.ow (by omega) (by omega) hg, Nat.le_trans h.sz hg.size⟩
theorem NS.pushI {w : World} {o : Nat} {l : List UInt8} {pre : List Nat} {a : Option Addr} {c : Nat} {w1 w2 : World} {b : Option Addr} {d n : Nat} (h : NS w o l pre a c w1) (x : Int) (hx : x = (n : Int)) (ho : Owns w2 (w.heap.size + 2) 3 1 b (pre.length + 1) d (nvals .i64 pre ++ [.int .i64 x])) (hg : w1.grownBy w2 (blk a)) : NS w o l (pre ++ [n]) b d w2 := by
  subst hx; exact h.push ho hg
theorem k1T : ∀ r : Fin 1024, (r : Nat) &&& 64512 = 0 := by decide +kernel
theorem k2T : ∀ q : Fin 64, (2 ^ 10 * (q : Nat)) &&& 64512 = 2 ^ 10 * (q : Nat) := by decide +kernel
theorem and_64512 (m : Nat) (h : m < 65536) : m &&& 64512 = m / 1024 * 1024 := by
  have e : m = 2 ^ 10 * (m / 1024) ||| (m % 1024) := by
    rw [← Nat.two_pow_add_eq_or_of_lt (i := 10) (by omega) (m / 1024)]; omega
  have a1 := k1T ⟨m % 1024, by omega⟩
  have a2 := k2T ⟨m / 1024, by omega⟩
  simp only at a1 a2
  have e2 : m &&& 64512 = (2 ^ 10 * (m / 1024) ||| (m % 1024)) &&& 64512 := by rw [← e]
  rw [e2, Nat.and_or_distrib_right, a1, a2, Nat.or_zero]; omega
theorem band_small (m : Nat) (h : m < 65536) : bits .and .i64 (m : Int) 64512 = ((m / 1024 * 1024 : Nat) : Int) := by
  have e := band64 m 64512 (by omega) (by omega)
  rw [and_64512 m h] at e
  exact e
open Txt in
set_option maxRecDepth 100000 in
set_option maxHeartbeats 4000000 in
theorem Narrow_0 (l : List UInt8) (w : World) (h9 : l.length ≤ 1000000) :
    Calls Tryd.prog 22 #[.string (bstr l), .int .i64 0] w fun e w' => ∃ a c, e = .returned (.tuple #[.slice a (nar 0 l).length c, .nilIface]) ∧ Owns w' w.heap.size 3 1 a (nar 0 l).length c (nvals .i64 (nar 0 l)) ∧ Below w.heap.size w w' := by
  have hb0 : Below w.heap.size w ((w.alloc (.cells #[.string (bstr l)] 9)).alloc (.cells #[.int .i64 0] 3)) := ((Below.refl _ w).alloc (Nat.le_refl _) _).alloc (by simp) _
  have r1 := ((RowAt.new w 9 #[.string (bstr l)]).alloc (.cells #[.int .i64 0] 3)).cell0 0 (by simp)
  have r2 := (RowAt.new (w.alloc (.cells #[.string (bstr l)] 9)) 3 #[.int .i64 0]).cell0 0 (by simp)
  rw [World.size_alloc] at r2
  have hns : NS w 0 l [] none 0 ((w.alloc (.cells #[.string (bstr l)] 9)).alloc (.cells #[.int .i64 0] 3)) := ⟨r1, r2, Owns.nil _ _ _ _, hb0, by simp⟩
  have HNS := Lib.hid hns
  clear hb0 r1 r2 hns
  go_enter Tryd.func22, Tryd.ntmps22
  go_wp2_with fail
  go_loopw [7, 8] (fun v7 v8 wr => ∃ (i : Nat) (pre : List Nat) (a : Option Addr) (c : Nat), i ≤ l.length ∧ pre.length ≤ i ∧ v8 = .int .i64 i ∧ v7 = .slice a pre.length c ∧ Hid (nar 0 l = pre ++ nar 0 (l.drop i)) ∧ Hid (NS w 0 l pre a c wr)) (fun _ v8 _ => l.length - (intOf v8).toNat)
  case atStart => exact ⟨0, [], none, 0, by omega, Nat.le_refl _, rfl, rfl, Lib.hid rfl, HNS⟩
  case round =>
    obtain ⟨i, pre, a, c, hil, hpi, rfl, rfl, HE, HS⟩ := hrel
    have csc := HS.out.sc
    have coc : wr.cell? ⟨w.heap.size + 1, 0, none⟩ = some (.int .i64 0) := HS.out.oc
    by_cases hlt : i + 1 < l.length
    · have hli : (i : Int) + 1 < (l.length : Int) := by omega
      have hun := fun W hg hs => unit_any 0 (.inl rfl) l i hlt h9 (w.heap.size + 1) w.heap.size W hg hs
      have hna := nar_a 0 l i hlt
      have hnc := nar_c 0 l i hlt
      have hnb := nar_b 0 l i
      have hvl := val_lt 0 (l.getD i 0) (l.getD (i + 1) 0)
      have hvm := val_lt 0 (l.getD (i + 2) 0) (l.getD (i + 3) 0)
      have hu2 := fun (h3 : i + 2 + 1 < l.length) W hg hs => unit_any 0 (.inl rfl) l (i + 2) h3 h9 (w.heap.size + 1) w.heap.size W hg hs
      generalize val 0 (l.getD i 0) (l.getD (i + 1) 0) = n at *
      have hu3 : i + 3 < l.length → ∀ W, W.cell? ⟨w.heap.size + 1, 0, none⟩ = some (.int .i64 0) → W.cell? ⟨w.heap.size, 0, none⟩ = some (.string (bstr l)) → Calls Tryd.prog 43 #[.int .i64 ((i : Int) + 2), .pointer (some ⟨w.heap.size + 1, 0, none⟩), .pointer (some ⟨w.heap.size, 0, none⟩)] W fun e w' => e = .returned (.int .i64 (val 0 (l.getD (i + 2) 0) (l.getD (i + 3) 0) : Nat)) ∧ ∃ k, w' = W.drewN k := fun h3 W hg hs => hu2 h3 W hg hs
      generalize val 0 (l.getD (i + 2) 0) (l.getD (i + 3) 0) = m at *
      have HUN := Lib.hid hun; have HU2 := Lib.hid hu3; have HNA := Lib.hid hna; have HNB := Lib.hid hnb; have HNC := Lib.hid hnc
      clear hun hu2 hu3 hna hnb hnc
      have hml : pre.length + 1 ≤ maxLen := by unfold maxLen; omega
      have hby : (pre.length + 1) * 8 ≤ 140737488355328 := by omega
      go_wp2_with fail
      refine (HUN.out _ coc csc).mono ?_
      rintro e w1 ⟨rfl, q1, rfl⟩
      have HS1 := Lib.hid (HS.out.drewN q1)
      clear HS csc coc
      generalize wr.drewN q1 = w1 at *
      have csc := HS1.out.sc
      have coc : w1.cell? ⟨w.heap.size + 1, 0, none⟩ = some (.int .i64 0) := HS1.out.oc
      have hB1 := HS1.out.sz
      by_cases hp : n < 55296 ∨ 57343 < n
      · have hnr := HNA.out hp
        have HNR := Lib.hid hnr
        clear hnr HNA HNB HNC HU2
        rcases (by omega : n < 55296 ∨ (55296 ≤ n ∧ 57343 < n)) with h1 | ⟨h1, h2⟩
        · have d1 : decide ((n : Int) < 55296) = true := decide_eq_true (by omega)
          go_wp2_with (with_reducible refine wpList_push _ rfl _ _ 36 rfl (w.heap.size + 2) 3 (.int .i64 0) 1 8 Tryd.underlying36 infoTx rfl (by decide) a pre.length c _ rfl HS1.out.ow [.int .i64 (n : Nat)] rfl (by simp [Value.oneCell']) rfl hml hby hB1 ?_; intro b d w4 hown hgrow hloc hsz hex)
          have hfin := HS1.out.pushI (n := n) (n : Nat) (by omega) hown hgrow
          have HF := Lib.hid hfin
          have he2 : nar 0 l = (pre ++ [n]) ++ nar 0 (l.drop (i + 2)) := by rw [HE.out, HNR.out, List.append_assoc]; rfl
          have HE2 := Lib.hid he2
          clear hfin hown hgrow hloc hex he2
          go_wp2_with fail
          go_roundw
          case rel => exact ⟨i + 2, pre ++ [n], b, d, by omega, by rw [List.length_append, List.length_singleton]; omega, by go_num, by rw [List.length_append, List.length_singleton], HE2, HF⟩
          case measure => simp [intOf]; omega
        · have d1 : decide ((n : Int) < 55296) = false := decide_eq_false (by omega)
          have d2 : decide ((57343 : Int) < (n : Int)) = true := decide_eq_true (by omega)
          go_wp2_with (with_reducible refine wpList_push _ rfl _ _ 36 rfl (w.heap.size + 2) 3 (.int .i64 0) 1 8 Tryd.underlying36 infoTx rfl (by decide) a pre.length c _ rfl HS1.out.ow [.int .i64 (n : Nat)] rfl (by simp [Value.oneCell']) rfl hml hby hB1 ?_; intro b d w4 hown hgrow hloc hsz hex)
          have hfin := HS1.out.pushI (n := n) (n : Nat) (by omega) hown hgrow
          have HF := Lib.hid hfin
          have he2 : nar 0 l = (pre ++ [n]) ++ nar 0 (l.drop (i + 2)) := by rw [HE.out, HNR.out, List.append_assoc]; rfl
          have HE2 := Lib.hid he2
          clear hfin hown hgrow hloc hex he2
          go_wp2_with fail
          go_roundw
          case rel => exact ⟨i + 2, pre ++ [n], b, d, by omega, by rw [List.length_append, List.length_singleton]; omega, by go_num, by rw [List.length_append, List.length_singleton], HE2, HF⟩
          case measure => simp [intOf]; omega
      · have d1 : decide ((n : Int) < 55296) = false := decide_eq_false (by omega)
        have d2 : decide ((57343 : Int) < (n : Int)) = false := decide_eq_false (by omega)
        by_cases h6 : n < 56320
        · have d3 : decide ((n : Int) < 56320) = true := decide_eq_true (by omega)
          by_cases h7 : i + 3 < l.length
          · have d4 : (i : Int) + 3 < (l.length : Int) := by omega
            have eb := band_small m hvm
            obtain ⟨z, hz⟩ : ∃ z, z = m / 1024 * 1024 := ⟨_, rfl⟩
            rw [← hz] at eb
            have eb1 := and_1023 n (by omega)
            have eb2 := and_1023 m (by omega)
            by_cases h8 : m / 1024 = 55
            · obtain ⟨n1, hn1⟩ : ∃ n1, n1 = n % 1024 := ⟨_, rfl⟩
              obtain ⟨m1, hm1⟩ : ∃ m1, m1 = m % 1024 := ⟨_, rfl⟩
              have ln1 : n1 < 1024 := by omega
              have lm1 : m1 < 1024 := by omega
              have hnr := HNB.out h7 hp h6 h8
              rw [← hn1, ← hm1] at hnr
              rw [← hn1] at eb1
              rw [← hm1] at eb2
              clear hn1 hm1
              have HNR := Lib.hid hnr
              have d5 : ((z : Int) == 56320) = true := by rw [beq_iff_eq]; omega
              have HZ := Lib.hid hz
              clear hnr HNA HNB HNC hz
              go_wp2_with fail
              refine (HU2.out h7 _ coc csc).mono ?_
              rintro e w2 ⟨rfl, q2, rfl⟩
              have HS2 := Lib.hid (HS1.out.drewN q2)
              clear HS1 csc coc hB1
              generalize w1.drewN q2 = w2 at *
              have csc := HS2.out.sc
              have coc : w2.cell? ⟨w.heap.size + 1, 0, none⟩ = some (.int .i64 0) := HS2.out.oc
              go_wp2_with fail
              refine (HU2.out h7 _ coc csc).mono ?_
              rintro e w3 ⟨rfl, q3, rfl⟩
              have HS3 := Lib.hid (HS2.out.drewN q3)
              clear HS2 csc coc
              generalize w2.drewN q3 = w3 at *
              have hB3 := HS3.out.sz
              clear h6 hp h8 hvl hvm d5 eb
              generalize hx : (65536 : Int) + (n1 : Int) * 1024 = x
              have hx2 : x + (m1 : Int) = ((65536 + n1 * 1024 + m1 : Nat) : Int) := by omega
              have hx0 : 0 ≤ x + (m1 : Int) := by omega
              have hx1 : x + (m1 : Int) < 1114112 := by omega
              have hw : IntKind.i64.wrap (x + (m1 : Int)) = x + (m1 : Int) := i64_in' _ (by omega) (by omega)
              have hw2 : wrap64 (x + (m1 : Int)) = x + (m1 : Int) := IntWalk.wrap64_in _ ⟨by omega, by omega⟩
              have HX := Lib.hid hx2
              clear hx eb1 hx2
              go_wp2_with (with_reducible refine wpList_push _ rfl _ _ 36 rfl (w.heap.size + 2) 3 (.int .i64 0) 1 8 Tryd.underlying36 infoTx rfl (by decide) a pre.length c _ rfl HS3.out.ow [.int .i64 (x + (m1 : Int))] rfl (by simp [Value.oneCell']) rfl hml hby hB3 ?_; intro b d w4 hown hgrow hloc hsz hex)
              have hfin := HS3.out.pushI (n := 65536 + n1 * 1024 + m1) _ HX.out hown hgrow
              have HF := Lib.hid hfin
              have he2 : nar 0 l = (pre ++ [65536 + n1 * 1024 + m1]) ++ nar 0 (l.drop (i + 4)) := by rw [HE.out, HNR.out, List.append_assoc]; rfl
              have HE2 := Lib.hid he2
              clear hfin hown hgrow hloc hex he2 hw hw2 hx0 hx1
              generalize x + (m1 : Int) = x2
              go_wp2_with fail
              go_roundw
              case rel => exact ⟨i + 4, pre ++ [65536 + n1 * 1024 + m1], b, d, by omega, by rw [List.length_append, List.length_singleton]; omega, by go_num, by rw [List.length_append, List.length_singleton], HE2, HF⟩
              case measure => simp [intOf]; omega
            · have hnr := HNC.out hp (fun h => h8 h.2.2)
              have HNR := Lib.hid hnr
              have d5 : ((z : Int) == 56320) = false := by rw [beq_eq_false_iff_ne]; omega
              have HZ := Lib.hid hz
              clear hnr HNA HNB HNC hz
              go_wp2_with fail
              refine (HU2.out h7 _ coc csc).mono ?_
              rintro e w2 ⟨rfl, q2, rfl⟩
              have HS2 := Lib.hid (HS1.out.drewN q2)
              clear HS1 csc coc hB1
              generalize w1.drewN q2 = w2 at *
              have HS1 := HS2; clear HS2
              generalize w2 = w1 at *
              have hB1 := HS1.out.sz
              clear h6 hp h8 eb1 eb2 hvl hvm
              go_wp2_with (with_reducible refine wpList_push _ rfl _ _ 36 rfl (w.heap.size + 2) 3 (.int .i64 0) 1 8 Tryd.underlying36 infoTx rfl (by decide) a pre.length c _ rfl HS1.out.ow [.int .i64 65533] rfl (by simp [Value.oneCell']) rfl hml hby hB1 ?_; intro b d w4 hown hgrow hloc hsz hex)
              have hfin := HS1.out.pushI (n := 65533) 65533 (by omega) hown hgrow
              have HF := Lib.hid hfin
              have he2 : nar 0 l = (pre ++ [65533]) ++ nar 0 (l.drop (i + 2)) := by rw [HE.out, HNR.out, List.append_assoc]; rfl
              have HE2 := Lib.hid he2
              clear hfin hown hgrow hloc hex he2
              go_wp2_with fail
              go_roundw
              case rel => exact ⟨i + 2, pre ++ [65533], b, d, by omega, by rw [List.length_append, List.length_singleton]; omega, by go_num, by rw [List.length_append, List.length_singleton], HE2, HF⟩
              case measure => simp [intOf]; omega
          · have d4 : ¬ (i : Int) + 3 < (l.length : Int) := by omega
            have hnr := HNC.out hp (fun h => h7 h.2.1)
            have HNR := Lib.hid hnr
            have d5 : decide ((i : Int) + 3 < (l.length : Int)) = false := decide_eq_false (by omega)
            clear hnr HNA HNB HNC HU2 h6 hp hvl hvm
            go_wp2_with (with_reducible refine wpList_push _ rfl _ _ 36 rfl (w.heap.size + 2) 3 (.int .i64 0) 1 8 Tryd.underlying36 infoTx rfl (by decide) a pre.length c _ rfl HS1.out.ow [.int .i64 65533] rfl (by simp [Value.oneCell']) rfl hml hby hB1 ?_; intro b d w4 hown hgrow hloc hsz hex)
            have hfin := HS1.out.pushI (n := 65533) 65533 (by omega) hown hgrow
            have HF := Lib.hid hfin
            have he2 : nar 0 l = (pre ++ [65533]) ++ nar 0 (l.drop (i + 2)) := by rw [HE.out, HNR.out, List.append_assoc]; rfl
            have HE2 := Lib.hid he2
            clear hfin hown hgrow hloc hex he2
            go_wp2_with fail
            go_roundw
            case rel => exact ⟨i + 2, pre ++ [65533], b, d, by omega, by rw [List.length_append, List.length_singleton]; omega, by go_num, by rw [List.length_append, List.length_singleton], HE2, HF⟩
            case measure => simp [intOf]; omega
        · have d3 : decide ((n : Int) < 56320) = false := decide_eq_false (by omega)
          have hnr := HNC.out hp (fun h => h6 h.1)
          have HNR := Lib.hid hnr
          clear hnr HNA HNB HNC HU2
          go_wp2_with (with_reducible refine wpList_push _ rfl _ _ 36 rfl (w.heap.size + 2) 3 (.int .i64 0) 1 8 Tryd.underlying36 infoTx rfl (by decide) a pre.length c _ rfl HS1.out.ow [.int .i64 65533] rfl (by simp [Value.oneCell']) rfl hml hby hB1 ?_; intro b d w4 hown hgrow hloc hsz hex)
          have hfin := HS1.out.pushI (n := 65533) 65533 (by omega) hown hgrow
          have HF := Lib.hid hfin
          have he2 : nar 0 l = (pre ++ [65533]) ++ nar 0 (l.drop (i + 2)) := by rw [HE.out, HNR.out, List.append_assoc]; rfl
          have HE2 := Lib.hid he2
          clear hfin hown hgrow hloc hex he2
          go_wp2_with fail
          go_roundw
          case rel => exact ⟨i + 2, pre ++ [65533], b, d, by omega, by rw [List.length_append, List.length_singleton]; omega, by go_num, by rw [List.length_append, List.length_singleton], HE2, HF⟩
          case measure => simp [intOf]; omega
    · have e1 : decide ((i : Int) + 1 < (l.length : Int)) = false := decide_eq_false (by omega)
      by_cases hz : i = l.length
      · have e2 : decide ((i : Int) < (l.length : Int)) = false := decide_eq_false (by omega)
        have e3 : decide (i < l.length) = false := decide_eq_false (by omega)
        have e4 : ¬ (i : Int) < (l.length : Int) := by omega
        have e5 : ¬ i < l.length := by omega
        have hnil : nar 0 l = pre := by rw [HE.out, hz, List.drop_length]; simp [nar]
        have HN := Lib.hid hnil
        clear hnil hz
        go_wp2_with fail
        go_ret2
        rw [HN.out]
        exact ⟨a, c, rfl, (HS.out.ow.mono (by omega)), HS.out.bel⟩
      · have e2 : (i : Int) < (l.length : Int) := by omega
        have hone : nar 0 l = pre ++ [65533] := by
          have hd : l.drop i = [l[i]'(by omega)] := by
            rw [List.drop_eq_getElem_cons (by omega), show i + 1 = l.length from by omega, List.drop_length]
          rw [HE.out, hd]; simp [nar]
        have HN := Lib.hid hone
        have hB := HS.out.sz
        have hml : pre.length + 1 ≤ maxLen := by unfold maxLen; omega
        have hby : (pre.length + 1) * 8 ≤ 140737488355328 := by omega
        clear hone hz
        go_wp2_with (with_reducible refine wpList_push _ rfl _ _ 36 rfl (w.heap.size + 2) 3 (.int .i64 0) 1 8 Tryd.underlying36 infoTx rfl (by decide) a pre.length c _ rfl HS.out.ow [.int .i64 65533] rfl (by simp [Value.oneCell']) rfl hml hby hB ?_; intro b d w4 hown hgrow hloc hsz hex)
        have hfin := HS.out.pushI (n := 65533) 65533 (by omega) hown hgrow
        have HF := Lib.hid hfin
        clear hfin hown hgrow hloc hex
        go_wp2_with fail
        go_ret2
        rw [HN.out, List.length_append, List.length_singleton]
        have := HF.out.ow
        rw [List.length_append, List.length_singleton] at this
        exact ⟨b, d, rfl, this.mono (by omega), HF.out.bel⟩
open Txt in
set_option maxRecDepth 100000 in
set_option maxHeartbeats 4000000 in
theorem Narrow_1 (l : List UInt8) (w : World) (h9 : l.length ≤ 1000000) :
    Calls Tryd.prog 22 #[.string (bstr l), .int .i64 1] w fun e w' => ∃ a c, e = .returned (.tuple #[.slice a (nar 1 l).length c, .nilIface]) ∧ Owns w' w.heap.size 3 1 a (nar 1 l).length c (nvals .i64 (nar 1 l)) ∧ Below w.heap.size w w' := by
  have hb0 : Below w.heap.size w ((w.alloc (.cells #[.string (bstr l)] 9)).alloc (.cells #[.int .i64 1] 3)) := ((Below.refl _ w).alloc (Nat.le_refl _) _).alloc (by simp) _
  have r1 := ((RowAt.new w 9 #[.string (bstr l)]).alloc (.cells #[.int .i64 1] 3)).cell0 0 (by simp)
  have r2 := (RowAt.new (w.alloc (.cells #[.string (bstr l)] 9)) 3 #[.int .i64 1]).cell0 0 (by simp)
  rw [World.size_alloc] at r2
  have hns : NS w 1 l [] none 0 ((w.alloc (.cells #[.string (bstr l)] 9)).alloc (.cells #[.int .i64 1] 3)) := ⟨r1, r2, Owns.nil _ _ _ _, hb0, by simp⟩
  have HNS := Lib.hid hns
  clear hb0 r1 r2 hns
  go_enter Tryd.func22, Tryd.ntmps22
  go_wp2_with fail
  go_loopw [7, 8] (fun v7 v8 wr => ∃ (i : Nat) (pre : List Nat) (a : Option Addr) (c : Nat), i ≤ l.length ∧ pre.length ≤ i ∧ v8 = .int .i64 i ∧ v7 = .slice a pre.length c ∧ Hid (nar 1 l = pre ++ nar 1 (l.drop i)) ∧ Hid (NS w 1 l pre a c wr)) (fun _ v8 _ => l.length - (intOf v8).toNat)
  case atStart => exact ⟨0, [], none, 0, by omega, Nat.le_refl _, rfl, rfl, Lib.hid rfl, HNS⟩
  case round =>
    obtain ⟨i, pre, a, c, hil, hpi, rfl, rfl, HE, HS⟩ := hrel
    have csc := HS.out.sc
    have coc : wr.cell? ⟨w.heap.size + 1, 0, none⟩ = some (.int .i64 1) := HS.out.oc
    by_cases hlt : i + 1 < l.length
    · have hli : (i : Int) + 1 < (l.length : Int) := by omega
      have hun := fun W hg hs => unit_any 1 (.inr rfl) l i hlt h9 (w.heap.size + 1) w.heap.size W hg hs
      have hna := nar_a 1 l i hlt
      have hnc := nar_c 1 l i hlt
      have hnb := nar_b 1 l i
      have hvl := val_lt 1 (l.getD i 0) (l.getD (i + 1) 0)
      have hvm := val_lt 1 (l.getD (i + 2) 0) (l.getD (i + 3) 0)
      have hu2 := fun (h3 : i + 2 + 1 < l.length) W hg hs => unit_any 1 (.inr rfl) l (i + 2) h3 h9 (w.heap.size + 1) w.heap.size W hg hs
      generalize val 1 (l.getD i 0) (l.getD (i + 1) 0) = n at *
      have hu3 : i + 3 < l.length → ∀ W, W.cell? ⟨w.heap.size + 1, 0, none⟩ = some (.int .i64 1) → W.cell? ⟨w.heap.size, 0, none⟩ = some (.string (bstr l)) → Calls Tryd.prog 43 #[.int .i64 ((i : Int) + 2), .pointer (some ⟨w.heap.size + 1, 0, none⟩), .pointer (some ⟨w.heap.size, 0, none⟩)] W fun e w' => e = .returned (.int .i64 (val 1 (l.getD (i + 2) 0) (l.getD (i + 3) 0) : Nat)) ∧ ∃ k, w' = W.drewN k := fun h3 W hg hs => hu2 h3 W hg hs
      generalize val 1 (l.getD (i + 2) 0) (l.getD (i + 3) 0) = m at *
      have HUN := Lib.hid hun; have HU2 := Lib.hid hu3; have HNA := Lib.hid hna; have HNB := Lib.hid hnb; have HNC := Lib.hid hnc
      clear hun hu2 hu3 hna hnb hnc
      have hml : pre.length + 1 ≤ maxLen := by unfold maxLen; omega
      have hby : (pre.length + 1) * 8 ≤ 140737488355328 := by omega
      go_wp2_with fail
      refine (HUN.out _ coc csc).mono ?_
      rintro e w1 ⟨rfl, q1, rfl⟩
      have HS1 := Lib.hid (HS.out.drewN q1)
      clear HS csc coc
      generalize wr.drewN q1 = w1 at *
      have csc := HS1.out.sc
      have coc : w1.cell? ⟨w.heap.size + 1, 0, none⟩ = some (.int .i64 1) := HS1.out.oc
      have hB1 := HS1.out.sz
      by_cases hp : n < 55296 ∨ 57343 < n
      · have hnr := HNA.out hp
        have HNR := Lib.hid hnr
        clear hnr HNA HNB HNC HU2
        rcases (by omega : n < 55296 ∨ (55296 ≤ n ∧ 57343 < n)) with h1 | ⟨h1, h2⟩
        · have d1 : decide ((n : Int) < 55296) = true := decide_eq_true (by omega)
          go_wp2_with (with_reducible refine wpList_push _ rfl _ _ 36 rfl (w.heap.size + 2) 3 (.int .i64 0) 1 8 Tryd.underlying36 infoTx rfl (by decide) a pre.length c _ rfl HS1.out.ow [.int .i64 (n : Nat)] rfl (by simp [Value.oneCell']) rfl hml hby hB1 ?_; intro b d w4 hown hgrow hloc hsz hex)
          have hfin := HS1.out.pushI (n := n) (n : Nat) (by omega) hown hgrow
          have HF := Lib.hid hfin
          have he2 : nar 1 l = (pre ++ [n]) ++ nar 1 (l.drop (i + 2)) := by rw [HE.out, HNR.out, List.append_assoc]; rfl
          have HE2 := Lib.hid he2
          clear hfin hown hgrow hloc hex he2
          go_wp2_with fail
          go_roundw
          case rel => exact ⟨i + 2, pre ++ [n], b, d, by omega, by rw [List.length_append, List.length_singleton]; omega, by go_num, by rw [List.length_append, List.length_singleton], HE2, HF⟩
          case measure => simp [intOf]; omega
        · have d1 : decide ((n : Int) < 55296) = false := decide_eq_false (by omega)
          have d2 : decide ((57343 : Int) < (n : Int)) = true := decide_eq_true (by omega)
          go_wp2_with (with_reducible refine wpList_push _ rfl _ _ 36 rfl (w.heap.size + 2) 3 (.int .i64 0) 1 8 Tryd.underlying36 infoTx rfl (by decide) a pre.length c _ rfl HS1.out.ow [.int .i64 (n : Nat)] rfl (by simp [Value.oneCell']) rfl hml hby hB1 ?_; intro b d w4 hown hgrow hloc hsz hex)
          have hfin := HS1.out.pushI (n := n) (n : Nat) (by omega) hown hgrow
          have HF := Lib.hid hfin
          have he2 : nar 1 l = (pre ++ [n]) ++ nar 1 (l.drop (i + 2)) := by rw [HE.out, HNR.out, List.append_assoc]; rfl
          have HE2 := Lib.hid he2
          clear hfin hown hgrow hloc hex he2
          go_wp2_with fail
          go_roundw
          case rel => exact ⟨i + 2, pre ++ [n], b, d, by omega, by rw [List.length_append, List.length_singleton]; omega, by go_num, by rw [List.length_append, List.length_singleton], HE2, HF⟩
          case measure => simp [intOf]; omega
      · have d1 : decide ((n : Int) < 55296) = false := decide_eq_false (by omega)
        have d2 : decide ((57343 : Int) < (n : Int)) = false := decide_eq_false (by omega)
        by_cases h6 : n < 56320
        · have d3 : decide ((n : Int) < 56320) = true := decide_eq_true (by omega)
          by_cases h7 : i + 3 < l.length
          · have d4 : (i : Int) + 3 < (l.length : Int) := by omega
            have eb := band_small m hvm
            obtain ⟨z, hz⟩ : ∃ z, z = m / 1024 * 1024 := ⟨_, rfl⟩
            rw [← hz] at eb
            have eb1 := and_1023 n (by omega)
            have eb2 := and_1023 m (by omega)
            by_cases h8 : m / 1024 = 55
            · obtain ⟨n1, hn1⟩ : ∃ n1, n1 = n % 1024 := ⟨_, rfl⟩
              obtain ⟨m1, hm1⟩ : ∃ m1, m1 = m % 1024 := ⟨_, rfl⟩
              have ln1 : n1 < 1024 := by omega
              have lm1 : m1 < 1024 := by omega
              have hnr := HNB.out h7 hp h6 h8
              rw [← hn1, ← hm1] at hnr
              rw [← hn1] at eb1
              rw [← hm1] at eb2
              clear hn1 hm1
              have HNR := Lib.hid hnr
              have d5 : ((z : Int) == 56320) = true := by rw [beq_iff_eq]; omega
              have HZ := Lib.hid hz
              clear hnr HNA HNB HNC hz
              go_wp2_with fail
              refine (HU2.out h7 _ coc csc).mono ?_
              rintro e w2 ⟨rfl, q2, rfl⟩
              have HS2 := Lib.hid (HS1.out.drewN q2)
              clear HS1 csc coc hB1
              generalize w1.drewN q2 = w2 at *
              have csc := HS2.out.sc
              have coc : w2.cell? ⟨w.heap.size + 1, 0, none⟩ = some (.int .i64 1) := HS2.out.oc
              go_wp2_with fail
              refine (HU2.out h7 _ coc csc).mono ?_
              rintro e w3 ⟨rfl, q3, rfl⟩
              have HS3 := Lib.hid (HS2.out.drewN q3)
              clear HS2 csc coc
              generalize w2.drewN q3 = w3 at *
              have hB3 := HS3.out.sz
              clear h6 hp h8 hvl hvm d5 eb
              generalize hx : (65536 : Int) + (n1 : Int) * 1024 = x
              have hx2 : x + (m1 : Int) = ((65536 + n1 * 1024 + m1 : Nat) : Int) := by omega
              have hx0 : 0 ≤ x + (m1 : Int) := by omega
              have hx1 : x + (m1 : Int) < 1114112 := by omega
              have hw : IntKind.i64.wrap (x + (m1 : Int)) = x + (m1 : Int) := i64_in' _ (by omega) (by omega)
              have hw2 : wrap64 (x + (m1 : Int)) = x + (m1 : Int) := IntWalk.wrap64_in _ ⟨by omega, by omega⟩
              have HX := Lib.hid hx2
              clear hx eb1 hx2
              go_wp2_with (with_reducible refine wpList_push _ rfl _ _ 36 rfl (w.heap.size + 2) 3 (.int .i64 0) 1 8 Tryd.underlying36 infoTx rfl (by decide) a pre.length c _ rfl HS3.out.ow [.int .i64 (x + (m1 : Int))] rfl (by simp [Value.oneCell']) rfl hml hby hB3 ?_; intro b d w4 hown hgrow hloc hsz hex)
              have hfin := HS3.out.pushI (n := 65536 + n1 * 1024 + m1) _ HX.out hown hgrow
              have HF := Lib.hid hfin
              have he2 : nar 1 l = (pre ++ [65536 + n1 * 1024 + m1]) ++ nar 1 (l.drop (i + 4)) := by rw [HE.out, HNR.out, List.append_assoc]; rfl
              have HE2 := Lib.hid he2
              clear hfin hown hgrow hloc hex he2 hw hw2 hx0 hx1
              generalize x + (m1 : Int) = x2
              go_wp2_with fail
              go_roundw
              case rel => exact ⟨i + 4, pre ++ [65536 + n1 * 1024 + m1], b, d, by omega, by rw [List.length_append, List.length_singleton]; omega, by go_num, by rw [List.length_append, List.length_singleton], HE2, HF⟩
              case measure => simp [intOf]; omega
            · have hnr := HNC.out hp (fun h => h8 h.2.2)
              have HNR := Lib.hid hnr
              have d5 : ((z : Int) == 56320) = false := by rw [beq_eq_false_iff_ne]; omega
              have HZ := Lib.hid hz
              clear hnr HNA HNB HNC hz
              go_wp2_with fail
              refine (HU2.out h7 _ coc csc).mono ?_
              rintro e w2 ⟨rfl, q2, rfl⟩
              have HS2 := Lib.hid (HS1.out.drewN q2)
              clear HS1 csc coc hB1
              generalize w1.drewN q2 = w2 at *
              have HS1 := HS2; clear HS2
              generalize w2 = w1 at *
              have hB1 := HS1.out.sz
              clear h6 hp h8 eb1 eb2 hvl hvm
              go_wp2_with (with_reducible refine wpList_push _ rfl _ _ 36 rfl (w.heap.size + 2) 3 (.int .i64 0) 1 8 Tryd.underlying36 infoTx rfl (by decide) a pre.length c _ rfl HS1.out.ow [.int .i64 65533] rfl (by simp [Value.oneCell']) rfl hml hby hB1 ?_; intro b d w4 hown hgrow hloc hsz hex)
              have hfin := HS1.out.pushI (n := 65533) 65533 (by omega) hown hgrow
              have HF := Lib.hid hfin
              have he2 : nar 1 l = (pre ++ [65533]) ++ nar 1 (l.drop (i + 2)) := by rw [HE.out, HNR.out, List.append_assoc]; rfl
              have HE2 := Lib.hid he2
              clear hfin hown hgrow hloc hex he2
              go_wp2_with fail
              go_roundw
              case rel => exact ⟨i + 2, pre ++ [65533], b, d, by omega, by rw [List.length_append, List.length_singleton]; omega, by go_num, by rw [List.length_append, List.length_singleton], HE2, HF⟩
              case measure => simp [intOf]; omega
          · have d4 : ¬ (i : Int) + 3 < (l.length : Int) := by omega
            have hnr := HNC.out hp (fun h => h7 h.2.1)
            have HNR := Lib.hid hnr
            have d5 : decide ((i : Int) + 3 < (l.length : Int)) = false := decide_eq_false (by omega)
            clear hnr HNA HNB HNC HU2 h6 hp hvl hvm
            go_wp2_with (with_reducible refine wpList_push _ rfl _ _ 36 rfl (w.heap.size + 2) 3 (.int .i64 0) 1 8 Tryd.underlying36 infoTx rfl (by decide) a pre.length c _ rfl HS1.out.ow [.int .i64 65533] rfl (by simp [Value.oneCell']) rfl hml hby hB1 ?_; intro b d w4 hown hgrow hloc hsz hex)
            have hfin := HS1.out.pushI (n := 65533) 65533 (by omega) hown hgrow
            have HF := Lib.hid hfin
            have he2 : nar 1 l = (pre ++ [65533]) ++ nar 1 (l.drop (i + 2)) := by rw [HE.out, HNR.out, List.append_assoc]; rfl
            have HE2 := Lib.hid he2
            clear hfin hown hgrow hloc hex he2
            go_wp2_with fail
            go_roundw
            case rel => exact ⟨i + 2, pre ++ [65533], b, d, by omega, by rw [List.length_append, List.length_singleton]; omega, by go_num, by rw [List.length_append, List.length_singleton], HE2, HF⟩
            case measure => simp [intOf]; omega
        · have d3 : decide ((n : Int) < 56320) = false := decide_eq_false (by omega)
          have hnr := HNC.out hp (fun h => h6 h.1)
          have HNR := Lib.hid hnr
          clear hnr HNA HNB HNC HU2
          go_wp2_with (with_reducible refine wpList_push _ rfl _ _ 36 rfl (w.heap.size + 2) 3 (.int .i64 0) 1 8 Tryd.underlying36 infoTx rfl (by decide) a pre.length c _ rfl HS1.out.ow [.int .i64 65533] rfl (by simp [Value.oneCell']) rfl hml hby hB1 ?_; intro b d w4 hown hgrow hloc hsz hex)
          have hfin := HS1.out.pushI (n := 65533) 65533 (by omega) hown hgrow
          have HF := Lib.hid hfin
          have he2 : nar 1 l = (pre ++ [65533]) ++ nar 1 (l.drop (i + 2)) := by rw [HE.out, HNR.out, List.append_assoc]; rfl
          have HE2 := Lib.hid he2
          clear hfin hown hgrow hloc hex he2
          go_wp2_with fail
          go_roundw
          case rel => exact ⟨i + 2, pre ++ [65533], b, d, by omega, by rw [List.length_append, List.length_singleton]; omega, by go_num, by rw [List.length_append, List.length_singleton], HE2, HF⟩
          case measure => simp [intOf]; omega
    · have e1 : decide ((i : Int) + 1 < (l.length : Int)) = false := decide_eq_false (by omega)
      by_cases hz : i = l.length
      · have e2 : decide ((i : Int) < (l.length : Int)) = false := decide_eq_false (by omega)
        have e3 : decide (i < l.length) = false := decide_eq_false (by omega)
        have e4 : ¬ (i : Int) < (l.length : Int) := by omega
        have e5 : ¬ i < l.length := by omega
        have hnil : nar 1 l = pre := by rw [HE.out, hz, List.drop_length]; simp [nar]
        have HN := Lib.hid hnil
        clear hnil hz
        go_wp2_with fail
        go_ret2
        rw [HN.out]
        exact ⟨a, c, rfl, (HS.out.ow.mono (by omega)), HS.out.bel⟩
      · have e2 : (i : Int) < (l.length : Int) := by omega
        have hone : nar 1 l = pre ++ [65533] := by
          have hd : l.drop i = [l[i]'(by omega)] := by
            rw [List.drop_eq_getElem_cons (by omega), show i + 1 = l.length from by omega, List.drop_length]
          rw [HE.out, hd]; simp [nar]
        have HN := Lib.hid hone
        have hB := HS.out.sz
        have hml : pre.length + 1 ≤ maxLen := by unfold maxLen; omega
        have hby : (pre.length + 1) * 8 ≤ 140737488355328 := by omega
        clear hone hz
        go_wp2_with (with_reducible refine wpList_push _ rfl _ _ 36 rfl (w.heap.size + 2) 3 (.int .i64 0) 1 8 Tryd.underlying36 infoTx rfl (by decide) a pre.length c _ rfl HS.out.ow [.int .i64 65533] rfl (by simp [Value.oneCell']) rfl hml hby hB ?_; intro b d w4 hown hgrow hloc hsz hex)
        have hfin := HS.out.pushI (n := 65533) 65533 (by omega) hown hgrow
        have HF := Lib.hid hfin
        clear hfin hown hgrow hloc hex
        go_wp2_with fail
        go_ret2
        rw [HN.out, List.length_append, List.length_singleton]
        have := HF.out.ow
        rw [List.length_append, List.length_singleton] at this
        exact ⟨b, d, rfl, this.mono (by omega), HF.out.bel⟩
end Go.Proofs.YtnldobfafaajjaaDoor
