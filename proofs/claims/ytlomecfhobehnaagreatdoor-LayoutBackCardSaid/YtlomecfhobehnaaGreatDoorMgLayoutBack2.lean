/- Contract of lex.Lex. -/
import Derived.Test.YtlomecfhobehnaaGreatDoorMgLayoutBack1
section
/- Contract of lex.next: the walk. -/
namespace Go.Proofs.YtlomecfhobehnaaGreatDoor
open Go.RowKit
set_option linter.unusedVariables false
set_option linter.unusedSimpArgs false
theorem run_loadVar_cells {P : Program} (w : World) (g : Nat) (ty : TypeId) (cs : Array Value) (d : TypeDesc) (hc : ∀ j v, cs.toList[j]? = some v → w.cell? ⟨g, j, none⟩ = some v)
    (hu : P.underlying ty = some d) (hd : (match d with | .struct _ | .array _ _ => true | _ => false) = true) (hi : (P.info? ty).map (·.size) = some cs.size) :
    (loadVar ty ⟨g, 0, none⟩).run P w = .ok (.agg cs) w := by
  have hl : (loadCells ⟨g, 0, none⟩ cs.toList.length).run P w = .ok cs.toList.toArray w :=
    run_loadCells_list (P := P) w ⟨g, 0, none⟩ cs.toList (fun j v hv => by
      have hadd : (⟨g, 0, none⟩ : Addr).add j = ⟨g, j, none⟩ := by unfold Addr.add; split <;> simp_all
      rw [hadd]
      exact hc j v hv)
  cases hq : P.info? ty with
  | none => simp [hq] at hi
  | some i =>
    have hs : i.size = cs.size := by simpa [hq] using hi
    have hagg : (isAgg ty).run P w = .ok true w := by
      unfold isAgg
      rw [Sem.run_bind, run_underlying hu w]
      cases d <;> simp_all
    simp only [Array.length_toList, Array.toArray_toList] at hl
    simp [loadVar, Sem.run_bind, hagg, sizeOf, typeInfo, hq, hs, hl]
theorem wpList_load_cells {P : Program} {ops : Array Oper} {rest : List Oper} {o : Oper} {a : Act} {w : World} {Q : Exit → Act → World → Prop} (hgd : o.guard = none) (ty : TypeId) (x : Operand) (ho : o.op = .load ty x)
    (g : Nat) (hx : a.eval x = .pointer (some ⟨g, 0, none⟩)) (cs : Array Value) (d : TypeDesc) (hc : ∀ j v, cs.toList[j]? = some v → w.cell? ⟨g, j, none⟩ = some v)
    (hu : P.underlying ty = some d) (hd : (match d with | .struct _ | .array _ _ => true | _ => false) = true) (hi : (P.info? ty).map (·.size) = some cs.size)
    (h : wpList P ops Q rest (a.put o.dst (.agg cs)) w) : wpList P ops Q (o :: rest) a w := by
  refine wpList_plain hgd fun K hK => ?_
  unfold Oper.wp execOp
  simp only [ho, hx, Instr.loadAt, Instr.sureAddr, Sem.run_bind, Sem.run_pure, Result.andThen_ok, run_loadVar_cells w g ty cs d hc hu hd hi]
  exact hK _ _ h
theorem marks_cells {w : World} (h : MarksAt w) : ∀ j v, marksV.toList[j]? = some v → w.cell? ⟨1, j, none⟩ = some v := by
  intro j v hv
  have hj : j < 18 := by
    rcases Nat.lt_or_ge j 18 with h | h
    · exact h
    · rw [List.getElem?_eq_none (by exact h)] at hv; cases hv
  rw [h j hj]
  rcases (by omega : j = 0 ∨ j = 1 ∨ j = 2 ∨ j = 3 ∨ j = 4 ∨ j = 5 ∨ j = 6 ∨ j = 7 ∨ j = 8 ∨ j = 9 ∨ j = 10 ∨ j = 11 ∨ j = 12 ∨ j = 13 ∨ j = 14 ∨ j = 15 ∨ j = 16 ∨ j = 17) with rfl | rfl | rfl | rfl | rfl | rfl | rfl | rfl | rfl | rfl | rfl | rfl | rfl | rfl | rfl | rfl | rfl | rfl <;> exact hv
namespace Lex
/-- no one of the first k marks begins the text -/
def noneTo (l : List UInt8) (k : Nat) : Prop := ∀ j, j < k → (marks.getD j []).isPrefixOf l = false
theorem markLen_hit (l : List UInt8) (k : Nat) (hk : k < 18) (h : noneTo l k) (hm : (marks.getD k []).isPrefixOf l = true) : markLen l = (marks.getD k []).length := by
  have hlen : marks.length = 18 := rfl
  have : (marks.find? fun m => m.isPrefixOf l) = some (marks.getD k []) := by
    rw [List.find?_eq_some_iff_getElem]
    refine ⟨hm, k, by rw [hlen]; exact hk, ?_, fun j hj => ?_⟩
    · rw [List.getD_eq_getElem?_getD, List.getElem?_eq_getElem (by rw [hlen]; exact hk)]; rfl
    · have := h j hj
      rw [List.getD_eq_getElem?_getD, List.getElem?_eq_getElem (by rw [hlen]; omega)] at this
      simpa using this
  unfold markLen
  rw [this]
theorem markLen_none (l : List UInt8) (h : noneTo l 18) : markLen l = 0 := by
  have hlen : marks.length = 18 := rfl
  have : (marks.find? fun m => m.isPrefixOf l) = none := by
    rw [List.find?_eq_none]
    intro m hm
    obtain ⟨j, hj, rfl⟩ := List.mem_iff_getElem.1 hm
    have := h j (by rw [← hlen]; exact hj)
    rw [List.getD_eq_getElem?_getD, List.getElem?_eq_getElem hj] at this
    intro hh
    rw [Option.getD_some] at this
    rw [this] at hh
    cases hh
  unfold markLen
  rw [this]
theorem marks_small (k : Nat) : (marks.getD k []).length ≤ 2 := by
  rw [List.getD_eq_getElem?_getD]
  rcases Nat.lt_or_ge k marks.length with h | h
  · rw [List.getElem?_eq_getElem h]; exact (marks_ne _ (List.getElem_mem h)).2
  · rw [List.getElem?_eq_none h]; decide
end Lex
set_option maxRecDepth 100000 in
set_option maxHeartbeats 2000000 in
theorem next_any (l : List UInt8) (w : World) (h0 : 0 < l.length) (hl : l.length ≤ 100000) (hm : MarksAt w) :
    Calls Tryz.prog 110 #[.string (bstr l)] w fun e w' => e = .returned (.int .i64 (Lex.next l : Nat)) ∧ w = w' := by
  have hat : ∀ k (h : k < (bstr l).size), ((bstr l)[k]'h).toNat = (l.getD k 0).toNat := fun k h => by rw [bstr_atL]
  have hsz : (bstr l).size = l.length := bstr_size l
  obtain ⟨c, r, hcr⟩ : ∃ c r, l = c :: r := by cases l with | nil => simp at h0 | cons c r => exact ⟨c, r, rfl⟩
  have hnx : Lex.next l = if Lex.word (l.getD 0 0) then (l.takeWhile Lex.word).length else Lex.markLen l := by rw [hcr]; rfl
  have hwl := Lex.wordLen_lt l
  have hws := Lex.wordLen_stop l
  have hwle : (l.takeWhile Lex.word).length ≤ l.length := List.Sublist.length_le (List.takeWhile_sublist _)
  have h0I : (0 : Int) < (l.length : Int) := by omega
  have HAT := Lib.hid hat; have HM := Lib.hid hm; have HNX := Lib.hid hnx; have HWL := Lib.hid hwl; have HWS := Lib.hid hws
  clear hat hm hnx hwl hws hcr
  have hl0 := fun (k : Nat) (h : k < (bstr l).size) (w : World) => letter_any ((bstr l)[k]'h).toNat (UInt8.toNat_lt _) w
  have hd0 := fun (k : Nat) (h : k < (bstr l).size) (w : World) => digit_any ((bstr l)[k]'h).toNat (UInt8.toNat_lt _) w
  have HL0 := Lib.hid hl0; have HD0 := Lib.hid hd0
  clear hl0 hd0
  have hb0 : 0 < (bstr l).size := by rw [hsz]; exact h0
  have hw0 : Lex.word (l.getD 0 0) = (Lex.letter ((bstr l)[0]'hb0).toNat || Lex.digit ((bstr l)[0]'hb0).toNat) := by
    rw [HAT.out 0 hb0]; rfl
  have HSZ := Lib.hid hsz; clear hsz
  have HW0 := Lib.hid hw0; clear hw0
  obtain ⟨wl, hwl⟩ : ∃ wl, wl = (l.takeWhile Lex.word).length := ⟨_, rfl⟩
  rw [← hwl] at HNX HWL HWS hwle
  clear hwl
  by_cases hw : Lex.word (l.getD 0 0) = true
  · have hn := HNX.out
    rw [if_pos hw] at hn
    rw [hn]
    have hor := HW0.out.symm.trans hw
    have HOR := Lib.hid hor
    clear hn hor hw HW0 HNX
    cases q1 : Lex.letter ((bstr l)[0]'hb0).toNat <;> cases q2 : Lex.digit ((bstr l)[0]'hb0).toNat
    · exfalso
      have := HOR.out
      rw [q1, q2] at this
      cases this
    all_goals
      have Q1 := Lib.hid q1; have Q2 := Lib.hid q2
      clear q1 q2 HOR
      go_enter Tryz.func110, Tryz.ntmps110
      go_wp2_with (first | (go_at_call 111; refine (HL0.out 0 hb0 _).mono ?_; rintro e w1 ⟨rfl, rfl⟩; rw [Q1.out]) | (go_at_call 136; refine (HD0.out 0 hb0 _).mono ?_; rintro e w1 ⟨rfl, rfl⟩; rw [Q2.out]))
      clear Q1 Q2
      go_loop [3] (fun v3 => ∃ k : Nat, k ≤ wl ∧ v3 = .int .i64 k) (fun v3 => wl - (intOf v3).toNat)
      case atStart => exact ⟨0, by omega, rfl⟩
      case round =>
        obtain ⟨k, hk, rfl⟩ := hrel
        by_cases hlt : k < l.length
        · have hkI : (k : Int) < (l.length : Int) := by omega
          have hbk : k < (bstr l).size := by rw [HSZ.out]; exact hlt
          have hwk : Lex.word (l.getD k 0) = (Lex.letter ((bstr l)[k]'hbk).toNat || Lex.digit ((bstr l)[k]'hbk).toNat) := by
            rw [HAT.out k hbk]; rfl
          by_cases hkw : k < wl
          · have hor := hwk.symm.trans (HWL.out k hkw)
            have HOR := Lib.hid hor
            clear hwk hor
            cases q1 : Lex.letter ((bstr l)[k]'hbk).toNat <;> cases q2 : Lex.digit ((bstr l)[k]'hbk).toNat
            · exfalso
              have := HOR.out
              rw [q1, q2] at this
              cases this
            all_goals
              have Q1 := Lib.hid q1; have Q2 := Lib.hid q2
              clear q1 q2 HOR
              go_wp2_with (first | (go_at_call 111; refine (HL0.out k hbk _).mono ?_; rintro e w1 ⟨rfl, rfl⟩; rw [Q1.out]) | (go_at_call 136; refine (HD0.out k hbk _).mono ?_; rintro e w1 ⟨rfl, rfl⟩; rw [Q2.out]))
              go_round
              case rel => exact ⟨k + 1, by omega, by go_num⟩
              case measure => simp [intOf]; omega
          · obtain rfl : k = wl := by omega
            have hor := hwk.symm.trans (HWS.out hlt)
            rw [Bool.or_eq_false_iff] at hor
            have Q1 := Lib.hid hor.1; have Q2 := Lib.hid hor.2
            clear hwk hor
            go_wp2_with (first | (go_at_call 111; refine (HL0.out k hbk _).mono ?_; rintro e w1 ⟨rfl, rfl⟩; rw [Q1.out]) | (go_at_call 136; refine (HD0.out k hbk _).mono ?_; rintro e w1 ⟨rfl, rfl⟩; rw [Q2.out]))
            go_ret
            exact ⟨rfl, rfl⟩
        · have hd : decide ((k : Int) < (l.length : Int)) = false := by rw [decide_eq_false_iff_not]; omega
          obtain rfl : k = wl := by omega
          go_wp2_with fail
          go_ret
          exact ⟨rfl, rfl⟩
  · have hn := HNX.out
    rw [if_neg hw] at hn
    rw [hn]
    have hor := HW0.out.symm.trans (Bool.eq_false_iff.2 hw)
    rw [Bool.or_eq_false_iff] at hor
    have Q1 := Lib.hid hor.1; have Q2 := Lib.hid hor.2
    clear hn hor hw HW0 HNX
    obtain ⟨V, hV⟩ : ∃ V, V = marksV := ⟨_, rfl⟩
    have hidx := marks_index
    have hcs := marks_cells HM.out
    have hvs : (Tryz.prog.info? 225).map (·.size) = some V.size := by rw [hV]; kernel_rfl
    rw [← hV] at hidx hcs
    clear hV
    have HIDX := Lib.hid hidx; have HCS := Lib.hid hcs; have HVS := Lib.hid hvs
    clear hidx hcs hvs
    go_enter Tryz.func110, Tryz.ntmps110
    go_wp2_with (first | (go_at_call 111; refine (HL0.out 0 hb0 _).mono ?_; rintro e w1 ⟨rfl, rfl⟩; rw [Q1.out]) | (go_at_call 136; refine (HD0.out 0 hb0 _).mono ?_; rintro e w1 ⟨rfl, rfl⟩; rw [Q2.out]) | (with_reducible refine wpList_load_cells rfl 225 _ rfl 1 rfl V _ HCS.out Tryz.underlying225 rfl HVS.out ?_))
    clear Q1 Q2
    go_loop [5, 34] (fun _ v34 => ∃ k : Nat, k ≤ 18 ∧ v34 = .int .i64 k ∧ Hid (Lex.noneTo l k)) (fun _ v34 => 18 - (intOf v34).toNat)
    case atStart => exact ⟨0, by omega, rfl, Lib.hid (fun j hj => by omega)⟩
    case round =>
      obtain ⟨k, hk, rfl, HN⟩ := hrel
      by_cases hk18 : k < 18
      · have hkI : decide ((k : Int) < 18) = true := by rw [decide_eq_true_eq]; omega
        have hx := HIDX.out k hk18
        have hhit := Lex.markLen_hit l k hk18 HN.out
        have hsm := Lex.marks_small k
        have hmiss : (Lex.marks.getD k []).isPrefixOf l = false → Lex.noneTo l (k + 1) := by
          intro h j hj
          rcases Nat.lt_or_ge j k with h1 | h1
          · exact HN.out j h1
          · obtain rfl : j = k := by omega
            exact h
        generalize Lex.marks.getD k [] = m at *
        have hp := fun w => HasPrefix_any l m hl (by omega) w
        cases q : m.isPrefixOf l with
        | true =>
          rw [q] at hp
          have hln := hhit q
          have HLN := Lib.hid hln; have HP := Lib.hid hp
          clear q hhit hmiss hln hp
          go_wp2_with fail
          refine (HP.out _).mono ?_
          rintro e w1 ⟨rfl, rfl⟩
          go_wp2_with fail
          go_ret
          exact ⟨ret_int (by rw [HLN.out]), rfl⟩
        | false =>
          rw [q] at hp
          have HMI := Lib.hid (hmiss q); have HP := Lib.hid hp
          clear q hhit hmiss hp
          go_wp2_with fail
          refine (HP.out _).mono ?_
          rintro e w1 ⟨rfl, rfl⟩
          go_wp2_with fail
          go_round
          case rel => exact ⟨k + 1, by omega, by go_num, HMI⟩
          case measure => simp [intOf]; omega
      · obtain rfl : k = 18 := by omega
        have hn := Lex.markLen_none l HN.out
        have HNN := Lib.hid hn; clear hn
        go_wp2_with fail
        go_ret
        exact ⟨ret_int (by rw [HNN.out]; rfl), rfl⟩
end Go.Proofs.YtlomecfhobehnaaGreatDoor
end
section
/- wpList_push, the new block's number as the walk spells it. -/
namespace Go.Proofs.YtlomecfhobehnaaGreatDoor
open Go.RowKit
set_option linter.unusedVariables false
set_option linter.unusedSimpArgs false
/-- wpList_push, the new element's block under a name of its own -/
theorem wpList_pushW {P : Program} (w : World) (W : Nat) (hW : W = w.heap.size) {ops : Array Oper} {rest : List Oper} {o : Oper} {act : Act} {Q : Exit → Act → World → Prop} (hgd : o.guard = none) (s x : Operand) (t : TypeId)
    (ho : o.op = .call { callee := .builtin .append, args := #[s, x], argTypes := #[t, t] })
    (B : Nat) (e : TypeId) (z : Value) (size bytes : Nat) (ht : P.underlying t = some (.slice e)) (hinf : (P.info? e).map (fun i => (i.zero, i.size, i.bytes)) = some (some z, size, bytes)) (hzs : z.cells.size = size) (hsz : 0 < size)
    (a : Option Addr) (n cap : Nat) (xs : List Value) (hs : act.eval s = .slice a n cap) (hown : Owns w B e size a n cap xs)
    (news : List Value) (hl : news.length = size) (h1 : ∀ u ∈ news, u.oneCell' = true) (hx : act.eval x = .slice (some ⟨W, 0, none⟩) 1 1)
    (h63 : n + 1 ≤ maxLen) (hbytes : (n + 1) * bytes ≤ 140737488355328) (hbase : B ≤ w.heap.size)
    (h : ∀ a' cap' w', Owns w' B e size a' (n + 1) cap' (xs ++ news) → w.grownBy w' (blk a) → (∀ x, a' = some x → a = some x ∨ w.heap.size < x.block) → w.heap.size < w'.heap.size →
      (∃ g, a' = some ⟨g, 0, none⟩) → wpList P ops Q rest (act.put o.dst (.slice a' (n + 1) cap')) w') :
    wpList P ops Q (o :: rest) act (w.alloc (.cells news.toArray e)) := by
  subst hW
  exact wpList_push w hgd s x t ho B e z size bytes ht hinf hzs hsz a n cap xs hs hown news hl h1 hx h63 hbytes hbase h
end Go.Proofs.YtlomecfhobehnaaGreatDoor
end
section
/- Contract of lex.Lex. -/
namespace Go.Proofs.YtlomecfhobehnaaGreatDoor
open Go.RowKit
set_option linter.unusedVariables false
set_option linter.unusedSimpArgs false
abbrev Tok := List UInt8 × Nat
def tokCell (t : Tok) : List Value := [.string (bstr t.1), .int .i64 (t.2 : Nat)]
def tokCells (T : List Tok) : List Value := T.flatMap tokCell
theorem tokCells_snoc (T : List Tok) (t : Tok) : tokCells (T ++ [t]) = tokCells T ++ tokCell t := by simp [tokCells]
theorem infoTok : (Tryz.prog.info? 162).map (fun i => (i.zero, i.size, i.bytes)) = some (some (.agg #[.string ByteArray.empty, .int .i64 0]), 2, 24) := by kernel_rfl
namespace Lex
theorem note_lt : ∀ (l : List UInt8) (k : Nat), k < note l → l.getD k 0 ≠ 10 := by
  intro l k h
  unfold note at h
  have h1 := takeWhile_all (fun c => c != 10) l ((l.takeWhile fun c => c != 10)[k]) (List.getElem_mem h)
  have h2 : l.getD k 0 = (l.takeWhile fun c => c != 10)[k] := by
    have hp := List.takeWhile_prefix (fun c : UInt8 => c != 10) (l := l)
    have := hp.getElem (by exact h)
    rw [this, List.getD_eq_getElem?_getD, List.getElem?_eq_getElem]
    rfl
  rw [h2]
  simpa using h1
theorem note_stop : ∀ (l : List UInt8), note l < l.length → l.getD (note l) 0 = 10 := by
  intro l
  unfold note
  induction l with
  | nil => intro h; simp at h
  | cons c l ih =>
    intro h
    rw [List.takeWhile_cons] at h ⊢
    by_cases hc : (c != 10) = true
    · rw [if_pos hc] at h ⊢
      simp only [List.length_cons] at h ⊢
      have := ih (by omega)
      simpa using this
    · rw [if_neg hc]
      simpa using hc
theorem drop_cons (s : List UInt8) (i : Nat) (h : i < s.length) : s.drop i = s.getD i 0 :: s.drop (i + 1) := by
  rw [List.drop_eq_getElem_cons h, List.getD_eq_getElem?_getD, List.getElem?_eq_getElem h]; rfl
theorem drop_getD (s : List UInt8) (i k : Nat) : (s.drop i).getD k 0 = s.getD (i + k) 0 := by
  simp only [List.getD_eq_getElem?_getD, List.getElem?_drop]
theorem step_blank (s : List UInt8) (i : Nat) (h : i < s.length) (hc : s.getD i 0 = 32 ∨ s.getD i 0 = 10 ∨ s.getD i 0 = 9) : lexA (s.drop i) i = lexA (s.drop (i + 1)) (i + 1) := by
  rw [drop_cons s i h, lexA_blank _ _ _ hc]
theorem step_note (s : List UInt8) (i : Nat) (h : i < s.length) (hc : s.getD i 0 = 35) : lexA (s.drop i) i = lexA (s.drop (i + note (s.drop i))) (i + note (s.drop i)) ∧ 0 < note (s.drop i) := by
  have hd : s.drop i = 35 :: s.drop (i + 1) := by rw [drop_cons s i h, hc]
  have hn := lexA_note (s.drop (i + 1)) i
  rw [← hd, List.drop_drop] at hn
  exact ⟨hn, by rw [hd]; exact note_pos _⟩
theorem step_bad (s : List UInt8) (i : Nat) (h : i < s.length) (h1 : ¬ (s.getD i 0 = 32 ∨ s.getD i 0 = 10 ∨ s.getD i 0 = 9)) (h2 : s.getD i 0 ≠ 35) (h3 : next (s.drop i) = 0) : lexA (s.drop i) i = none := by
  rw [drop_cons s i h] at h3 ⊢
  exact lexA_bad _ _ _ h1 h2 h3
theorem step_tok (s : List UInt8) (i : Nat) (h : i < s.length) (h1 : ¬ (s.getD i 0 = 32 ∨ s.getD i 0 = 10 ∨ s.getD i 0 = 9)) (h2 : s.getD i 0 ≠ 35) (h3 : next (s.drop i) ≠ 0) :
    lexA (s.drop i) i = (lexA (s.drop (i + next (s.drop i))) (i + next (s.drop i))).map fun T => ((s.drop i).take (next (s.drop i)), i) :: T := by
  have hd := drop_cons s i h
  have := lexA_tok (s.getD i 0) (s.drop (i + 1)) i h1 h2 (by rw [← hd]; exact h3)
  rw [← hd, List.drop_drop] at this
  exact this
/-- so far these tokens -/
def Far (s : List UInt8) (i : Nat) (A : List Tok) : Prop := lexA s 0 = (lexA (s.drop i) i).map fun T => A ++ T
theorem Far.start (s : List UInt8) : Far s 0 [] := by
  unfold Far
  rw [List.drop_zero]
  cases lexA s 0 <;> rfl
theorem Far.same {s : List UInt8} {i j : Nat} {A : List Tok} (h : Far s i A) (he : lexA (s.drop i) i = lexA (s.drop j) j) : Far s j A := by unfold Far at *; rw [h, he]
theorem Far.tok {s : List UInt8} {i j : Nat} {A : List Tok} {t : Tok} (h : Far s i A) (he : lexA (s.drop i) i = (lexA (s.drop j) j).map fun T => t :: T) : Far s j (A ++ [t]) := by
  unfold Far at *
  rw [h, he, Option.map_map]
  congr 1
  funext T
  simp
theorem Far.done {s : List UInt8} {i : Nat} {A : List Tok} (h : Far s i A) (hi : s.length ≤ i) : lexA s 0 = some A := by
  unfold Far at h
  rw [List.drop_eq_nil_of_le hi, lexA_nil] at h
  simpa using h
theorem Far.bad {s : List UInt8} {i : Nat} {A : List Tok} (h : Far s i A) (he : lexA (s.drop i) i = none) : lexA s 0 = none := by
  unfold Far at h
  rw [he] at h
  exact h
end Lex
def LexOut (s : List UInt8) (w : World) (e : Ending) (w' : World) : Prop := Below w.heap.size w w' ∧
  ((∃ T a cap, Lex.lexA s 0 = some T ∧ e = .returned (.tuple #[.slice a T.length cap, .nilIface]) ∧ Owns w' w.heap.size 162 2 a T.length cap (tokCells T)) ∨
   (Lex.lexA s 0 = none ∧ ∃ g, e = .returned (.tuple #[.slice none 0 0, .iface 120 (.pointer (some ⟨g, 0, none⟩))])))
set_option maxRecDepth 100000 in
set_option maxHeartbeats 4000000 in
theorem Lex_any (s : List UInt8) (w : World) (hs : s.length ≤ 3000) (hm : MarksAt w) :
    Calls Tryz.prog 84 #[.string (bstr s)] w (LexOut s w) := by
  have hat : ∀ k (h : k < (bstr s).size), ((bstr s)[k]'h).toNat = (s.getD k 0).toNat := fun k h => by rw [bstr_atL]
  have hsz : (bstr s).size = s.length := bstr_size s
  have HAT := Lib.hid hat; have HM := Lib.hid hm; have HSZ := Lib.hid hsz
  clear hat hm hsz
  have hbig : decide ((3000 : Int) < (s.length : Int)) = false := by rw [decide_eq_false_iff_not]; omega
  go_enter Tryz.func84, Tryz.ntmps84
  go_wp2_with fail
  go_loopw [4, 5, 6] (fun v4 v5 v6 wr => ∃ (i cap : Nat) (a : Option Addr) (A : List Tok), i ≤ s.length ∧ v5 = .int .i64 i ∧ v4 = .slice a A.length cap ∧ A.length ≤ i ∧ Hid (Owns wr w.heap.size 162 2 a A.length cap (tokCells A)) ∧ Hid (Lex.Far s i A) ∧ Hid (Below w.heap.size w wr)) (fun _ v5 _ _ => s.length - (intOf v5).toNat)
  case atStart => exact ⟨0, 0, none, [], by omega, rfl, rfl, by simp, Lib.hid (Owns.nil _ _ _ _), Lib.hid (Lex.Far.start s), Lib.hid (Below.refl _ _)⟩
  case round =>
    obtain ⟨i, cap, a, A, hi, rfl, rfl, hA, HO, HF, HB⟩ := hrel
    by_cases hlt : i < s.length
    · have hiI : (i : Int) < (s.length : Int) := by omega
      have hbi : i < (bstr s).size := by rw [HSZ.out]; exact hlt
      have hc := HAT.out i hbi
      have hcn : ∀ n : Nat, n < 256 → (s.getD i 0 = UInt8.ofNat n ↔ ((bstr s)[i]'hbi).toNat = n) := by
        intro n hn
        rw [hc]
        constructor
        · intro h; rw [h]; simp; omega
        · intro h; rw [← h]; simp
      have h32 := hcn 32 (by decide); have h10 := hcn 10 (by decide); have h9 := hcn 9 (by decide); have h35 := hcn 35 (by decide)
      change s.getD i 0 = 32 ↔ _ at h32
      change s.getD i 0 = 10 ↔ _ at h10
      change s.getD i 0 = 9 ↔ _ at h9
      change s.getD i 0 = 35 ↔ _ at h35
      clear hcn hc
      by_cases hbl : s.getD i 0 = 32 ∨ s.getD i 0 = 10 ∨ s.getD i 0 = 9
      · have hst := Lex.step_blank s i hlt hbl
        have HF2 := Lib.hid (HF.out.same hst)
        clear hst
        rw [h32, h10, h9] at hbl
        clear h32 h10 h9 h35
        by_cases k1 : ((bstr s)[i]'hbi).toNat = 32
        · have e1 : ((((bstr s)[i]'hbi).toNat : Int) == 32) = true := by rw [beq_iff_eq]; omega
          have K := Lib.hid k1; clear k1 hbl
          go_wp2_with fail
          go_roundw
          case rel => exact ⟨i + 1, cap, a, A, by omega, by go_num, rfl, by omega, HO, HF2, HB⟩
          case measure => simp [intOf]; omega
        · have e1 : ((((bstr s)[i]'hbi).toNat : Int) == 32) = false := by rw [beq_eq_false_iff_ne]; omega
          by_cases k2 : ((bstr s)[i]'hbi).toNat = 10
          · have e2 : ((((bstr s)[i]'hbi).toNat : Int) == 10) = true := by rw [beq_iff_eq]; omega
            have K := Lib.hid k2; clear k1 k2 hbl
            go_wp2_with fail
            go_roundw
            case rel => exact ⟨i + 1, cap, a, A, by omega, by go_num, rfl, by omega, HO, HF2, HB⟩
            case measure => simp [intOf]; omega
          · have e2 : ((((bstr s)[i]'hbi).toNat : Int) == 10) = false := by rw [beq_eq_false_iff_ne]; omega
            have e3 : ((((bstr s)[i]'hbi).toNat : Int) == 9) = true := by rw [beq_iff_eq]; omega
            clear k1 k2 hbl
            go_wp2_with fail
            go_roundw
            case rel => exact ⟨i + 1, cap, a, A, by omega, by go_num, rfl, by omega, HO, HF2, HB⟩
            case measure => simp [intOf]; omega
      · have hbl2 := hbl
        rw [h32, h10, h9] at hbl
        have e1 : ((((bstr s)[i]'hbi).toNat : Int) == 32) = false := by rw [beq_eq_false_iff_ne]; omega
        have e2 : ((((bstr s)[i]'hbi).toNat : Int) == 10) = false := by rw [beq_eq_false_iff_ne]; omega
        have e3 : ((((bstr s)[i]'hbi).toNat : Int) == 9) = false := by rw [beq_eq_false_iff_ne]; omega
        by_cases hno : s.getD i 0 = 35
        · have e4 : ((((bstr s)[i]'hbi).toNat : Int) == 35) = true := by rw [beq_iff_eq]; have := h35.1 hno; omega
          obtain ⟨hst, hpos⟩ := Lex.step_note s i hlt hno
          have HF2 := Lib.hid (HF.out.same hst)
          have hnl := Lex.note_lt (s.drop i)
          have hns := Lex.note_stop (s.drop i)
          have hnle := Lex.note_le (s.drop i)
          rw [List.length_drop] at hns hnle
          generalize Lex.note (s.drop i) = q at *
          have HNL := Lib.hid hnl; have HNS := Lib.hid hns
          clear hst hnl hns hbl hbl2 h32 h10 h9 h35 hno
          go_wp2_with fail
          go_loop [5] (fun v5 => ∃ k : Nat, i ≤ k ∧ k ≤ i + q ∧ v5 = .int .i64 k) (fun v5 => i + q - (intOf v5).toNat)
          case atStart => exact ⟨i, by omega, by omega, rfl⟩
          case round =>
            obtain ⟨k, hk1, hk2, rfl⟩ := hrel
            by_cases hkl : k < s.length
            · have hkI : (k : Int) < (s.length : Int) := by omega
              have hbk : k < (bstr s).size := by rw [HSZ.out]; exact hkl
              have hck := HAT.out k hbk
              by_cases hkq : k < i + q
              · have hne : (((bstr s)[k]'hbk).toNat) ≠ 10 := by
                  have := HNL.out (k - i) (by omega)
                  rw [Lex.drop_getD, show i + (k - i) = k from by omega] at this
                  intro hh
                  apply this
                  rw [hck] at hh
                  exact UInt8.toNat_inj.1 hh
                have f1 : ((((bstr s)[k]'hbk).toNat : Int) != 10) = true := by rw [bne_iff_ne]; omega
                clear hck hne
                go_wp2_with fail
                go_round
                case rel => exact ⟨k + 1, by omega, by omega, by go_num⟩
                case measure => simp [intOf]; omega
              · obtain rfl : k = i + q := by omega
                have hne : (((bstr s)[i + q]'hbk).toNat) = 10 := by
                  have := HNS.out (by omega)
                  rw [Lex.drop_getD] at this
                  rw [hck, this]; rfl
                have f1 : ((((bstr s)[i + q]'hbk).toNat : Int) != 10) = false := by rw [bne_eq_false_iff_eq]; omega
                have K := Lib.hid hne; clear hck hne
                go_wp2_with fail
                go_roundw
                case rel => exact ⟨i + q, cap, a, A, by omega, rfl, rfl, by omega, HO, HF2, HB⟩
                case measure => simp [intOf]; omega
            · have f1 : decide ((k : Int) < (s.length : Int)) = false := by rw [decide_eq_false_iff_not]; omega
              obtain rfl : k = i + q := by omega
              go_wp2_with fail
              go_roundw
              case rel => exact ⟨i + q, cap, a, A, by omega, rfl, rfl, by omega, HO, HF2, HB⟩
              case measure => simp [intOf]; omega
        · have e4 : ((((bstr s)[i]'hbi).toNat : Int) == 35) = false := by rw [beq_eq_false_iff_ne]; intro hh; exact hno (h35.2 (by omega))
          have hx : (bstr s).extract i s.length = bstr (s.drop i) := by rw [bstr_cutL, List.take_of_length_le (by rw [List.length_drop]; exact Nat.le_refl _)]
          have hnx := fun w hm => next_any (s.drop i) w (by rw [List.length_drop]; omega) (by rw [List.length_drop]; omega) hm
          have hnb := Lex.step_bad s i hlt hbl2 hno
          have hnt := Lex.step_tok s i hlt hbl2 hno
          have hnle := Lex.next_le (s.drop i)
          rw [List.length_drop] at hnle
          have hx2 : (bstr s).extract i (i + Lex.next (s.drop i)) = bstr ((s.drop i).take (Lex.next (s.drop i))) := by rw [bstr_cutL, Nat.add_sub_cancel_left]
          generalize Lex.next (s.drop i) = n at *
          have HNB := Lib.hid hnb; have HNT := Lib.hid hnt
          have HNX := Lib.hid (hnx wr (HM.out.below HB.out (Nat.le_refl _)))
          clear hnx hnb hnt hbl hbl2 h32 h10 h9 h35 hno
          by_cases hn0 : n = 0
          · have f1 : ((n : Int) == 0) = true := by rw [beq_iff_eq]; omega
            have hbad := HF.out.bad (HNB.out hn0)
            have HBAD := Lib.hid hbad
            have K := Lib.hid hn0; clear hn0 hbad
            go_wp2_with fail
            refine HNX.out.mono ?_
            rintro e w1 ⟨rfl, rfl⟩
            go_wp2_with fail
            go_ret2
            exact ⟨HB.out.alloc HB.out.size _, .inr ⟨HBAD.out, _, rfl⟩⟩
          · have f1 : ((n : Int) == 0) = false := by rw [beq_eq_false_iff_ne]; omega
            have hft := HF.out.tok (HNT.out hn0)
            have HFT := Lib.hid hft
            have K := Lib.hid hn0
            have hnpos : 0 < n := by omega
            clear hft hn0
            have hbs := HB.out.size
            have ho := HO.out
            have h63 : A.length + 1 ≤ maxLen := by unfold maxLen; omega
            go_wp2_with fail
            refine HNX.out.mono ?_
            rintro e w1 ⟨rfl, rfl⟩
            go_wp2_with (with_reducible refine wpList_pushW wr wr.heap.size rfl rfl _ _ 153 rfl w.heap.size 162 (.agg #[.string ByteArray.empty, .int .i64 0]) 2 24 Tryz.underlying153 infoTok rfl (by decide) a A.length cap _ rfl ho [.string (bstr ((s.drop i).take n)), .int .i64 (i : Nat)] rfl (by simp [Value.oneCell']) rfl h63 (by omega) hbs ?_; intro a' cap' w' hown' hgrow hloc hsz' hex)
            have hlen : (A ++ [(((s.drop i).take n, i) : Tok)]).length = A.length + 1 := by simp
            have HLEN := Lib.hid hlen; clear hlen
            go_roundw
            case rel => exact ⟨i + n, cap', a', A ++ [((s.drop i).take n, i)], by omega, by go_num, by rw [HLEN.out], by rw [HLEN.out]; omega, Lib.hid (by rw [HLEN.out, tokCells_snoc]; exact hown'), HFT, Lib.hid (below_blk HB.out ho (Nat.le_refl _) hbs hgrow)⟩
            case measure => simp [intOf]; omega
    · obtain rfl : i = s.length := by omega
      have hd : decide ((s.length : Int) < (s.length : Int)) = false := by simp
      have hfin := HF.out.done (Nat.le_refl _)
      have HFIN := Lib.hid hfin; clear hfin
      go_wp2_with fail
      go_ret2
      exact ⟨HB.out, .inl ⟨A, a, cap, HFIN.out, rfl, HO.out⟩⟩
end Go.Proofs.YtlomecfhobehnaaGreatDoor
end
