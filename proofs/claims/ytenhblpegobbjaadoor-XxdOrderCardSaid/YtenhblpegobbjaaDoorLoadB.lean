/- Contract of xxd.Load at lines that can be read. -/
import Derived.Test.YtenhblpegobbjaaDoorLoadA
namespace Go.Proofs.YtenhblpegobbjaaDoor
open Go.RowKit Go.Shelf
set_option linter.unusedVariables false
set_option linter.unusedSimpArgs false
attribute [local go_sem] Oper.semAt_some
set_option maxRecDepth 100000 in
theorem SplitSeq_any (s : List UInt8) (w : World) : Calls Tryd.prog 21 #[.string (bstr s), .string (bstr [10])] w fun e w' => e = .returned (.func (.func 48) #[] #[.pointer (some ⟨w.heap.size + 1, 0, none⟩), .pointer (some ⟨w.heap.size, 0, none⟩), .pointer (some ⟨w.heap.size + 2, 0, none⟩)]) ∧
    SeqB w' w.heap.size s ∧ Below w.heap.size w w' ∧ w'.heap.size = w.heap.size + 3 := by
  have h1 : Calls Tryd.prog 32 #[.string (bstr s), .string (bstr [10]), .int .i64 0] w fun e w' => e = .returned (.func (.func 48) #[] #[.pointer (some ⟨w.heap.size + 1, 0, none⟩), .pointer (some ⟨w.heap.size, 0, none⟩), .pointer (some ⟨w.heap.size + 2, 0, none⟩)]) ∧
    w' = ((w.alloc (.cells #[.string (bstr s)] 9)).alloc (.cells #[.string (bstr [10])] 9)).alloc (.cells #[.int .i64 0] 3) := by
    go_enter Tryd.func32, Tryd.ntmps32
    go_wp2_with fail
    go_ret
    exact ⟨by simp, rfl⟩
  have H1 := Lib.hid h1; clear h1
  go_enter Tryd.func21, Tryd.ntmps21
  go_wp2_with fail
  refine H1.out.mono ?_
  rintro e w1 ⟨rfl, rfl⟩
  go_wp2_with fail
  go_ret
  have hb : Below w.heap.size w (((w.alloc (.cells #[.string (bstr s)] 9)).alloc (.cells #[.string (bstr [10])] 9)).alloc (.cells #[.int .i64 0] 3)) := (((Below.refl _ w).alloc (Nat.le_refl _) _).alloc (by simp) _).alloc (by simp; omega) _
  refine ⟨rfl, ⟨((RowAt.new w 9 #[.string (bstr s)]).alloc _).alloc _, ?_, ?_⟩, hb, by simp⟩
  · exact (RowAt.new' (w.alloc (.cells #[.string (bstr s)] 9)) (w.heap.size + 1) (by simp) 9 #[.string (bstr [10])]).alloc _
  · exact RowAt.new' ((w.alloc (.cells #[.string (bstr s)] 9)).alloc (.cells #[.string (bstr [10])] 9)) (w.heap.size + 2) (by simp) 3 #[.int .i64 0]
/-- lines that can be read, and what they tell -/
structure Lines (L : List (List UInt8)) (T : List (Option Nat × List UInt8)) : Prop where
  len : T.length = L.length
  ne : L ≠ []
  no : ∀ x ∈ L, 10 ∉ x
  short : ∀ x ∈ L, x.length ≤ 2000
  few : L.length ≤ 100000
  all : (Xx.joinNl L).length ≤ 1000000
  ln : ∀ k, k < L.length → Xx.Ln (L.getD k []) (T.getD k (none, [])).1 (T.getD k (none, [])).2
  fits : ∀ k, k < L.length → (Xx.told (T.take k)).length ≤ 4000 ∧ ((T.getD k (none, [])).1.getD (Xx.told (T.take k)).length) + (T.getD k (none, [])).2.length ≤ 4000
theorem LdS.here {b0 N0 F : Nat} {Wr W : World} {v : Value} {out : List UInt8} (h : LdS b0 N0 Wr W v out F) : LdS b0 N0 W W v out F := ⟨h.res, h.err, h.row, h.own, h.frm, fun _ _ _ => rfl, KeepsOthers.refl _, Below.refl _ _, h.sz⟩
theorem LdS.moved {b0 N0 F : Nat} {W W' : World} {v : Value} {out : List UInt8} {row : Option Nat} (h : LdS b0 N0 W W v out F) (hg : W.grownBy W' row) (hr : ∀ r, row = some r → b0 + 4 ≤ r ∧ v.ownBlock ≠ some r) : LdS b0 N0 W' W' v out F := by
  have hne : ∀ k, k < b0 + 4 → some k ≠ row := fun k hk e => by have := (hr k e.symm).1; omega
  refine ⟨h.res.kept hg (hne _ (by omega)), h.err.kept hg (hne _ (by omega)), h.row.kept hg (hne _ (by omega)), h.own.kept hg ?_, h.frm.kept hg (hne _ (by omega)), fun _ _ _ => rfl, KeepsOthers.refl _, Below.refl _ _, Nat.le_trans h.sz hg.size⟩
  cases hv : v.ownBlock with
  | none => exact .inl rfl
  | some g => exact .inr fun e => by have := (hr g e.symm).2; exact this hv
theorem ownsForm' {W : World} {base : Nat} {e : TypeId} {size : Nat} {v : Value} {k : Nat} {xs : List Value} (h : W.ownsRow base e size v k xs) : ∃ a c, v = .slice a k c := by
  rcases h.2 with ⟨h1, h2⟩ | ⟨g, cap, _, h1, _⟩
  · exact ⟨none, 0, by rw [h1, h2]⟩
  · exact ⟨_, cap, h1⟩
/-- the loop's holding, over the lines that have been read -/
def LdI (b0 N0 : Nat) (w0 : World) (T : List (Option Nat × List UInt8)) (pre : List (List UInt8)) (W : World) : Prop := ∃ v F, LdS b0 N0 W W v (Xx.told (T.take pre.length)) F ∧ F ≤ 2001 * pre.length ∧ Below b0 w0 W
theorem LdI.moved {b0 N0 : Nat} {w0 W W' : World} {T : List (Option Nat × List UInt8)} {pre : List (List UInt8)} {row : Option Nat} (h : LdI b0 N0 w0 T pre W) (hg : W.grownBy W' row) (hr : ∀ r, row = some r → b0 + 4 ≤ r ∧ (N0 ≤ r → ∃ o : Obj, W.heap[r]? = some o ∧ o.isCells = false)) : LdI b0 N0 w0 T pre W' := by
  obtain ⟨v, F, hS, hF, hB⟩ := h
  refine ⟨v, F, hS.moved hg fun r e => ⟨(hr r e).1, fun hv => ?_⟩, hF, hB.grown hg (by have := hB.size; have := hS.frm.lt; omega) fun r e => by have := (hr r e).1; omega⟩
  have hlt := hS.own.lt r hv
  obtain ⟨o, ho, hc⟩ := (hr r e).2 hlt.1
  rcases hS.own.2 with ⟨rfl, _⟩ | ⟨g, cap, cur, rfl, _, hgb, _⟩
  · simp [Value.ownBlock] at hv
  · obtain rfl : g = r := by simpa [Value.ownBlock] using hv
    rw [hgb] at ho; cases ho; cases hc
theorem LdI.next {b0 N0 B4 F : Nat} {w0 Wr W : World} {v : Value} {out : List UInt8} {T : List (Option Nat × List UInt8)} {pre : List (List UInt8)} {x : List UInt8} (h : LdS b0 N0 Wr W v out (F + (x.length + 1))) (ht : Xx.told (T.take (pre.length + 1)) = out)
    (hF : F ≤ 2001 * pre.length) (hx : x.length ≤ 2000) (hB : Below b0 w0 Wr) (hB4 : B4 = b0 + 4) : KeepsFrom N0 Wr W ∧ KeptB B4 Wr W ∧ LdI b0 N0 w0 T (pre ++ [x]) W := by
  subst hB4
  refine ⟨h.ko.from _, h.kb, v, F + (x.length + 1), ?_, ?_, hB.trans h.bl⟩
  · rw [List.length_append, List.length_singleton, ht]
    exact h.here
  · rw [List.length_append, List.length_singleton]
    omega
theorem LdI.start (w w' : World) (T : List (Option Nat × List UInt8)) (B4 : Nat) (hB4 : B4 = w.heap.size + 4)
    (hb : Below B4 ((((w.alloc (.cells #[.string { data := #[] }] 9)).alloc (.cells #[.nilIface] 25)).alloc (.cells #[.slice none 0 0] 41)).alloc (.cells #[.int .i64 0] 3)) w') (hsz : w'.heap.size = B4 + 3) : LdI w.heap.size w'.heap.size w T [] w' := by
  subst hB4
  have b1 := Boxed.new w 9 (.string { data := #[] })
  have b2 := Boxed.new (w.alloc (.cells #[.string { data := #[] }] 9)) 25 .nilIface
  have b3 := Boxed.new ((w.alloc (.cells #[.string { data := #[] }] 9)).alloc (.cells #[.nilIface] 25)) 41 (.slice none 0 0)
  have b4 := Boxed.new (((w.alloc (.cells #[.string { data := #[] }] 9)).alloc (.cells #[.nilIface] 25)).alloc (.cells #[.slice none 0 0] 41)) 3 (.int .i64 0)
  simp only [World.size_alloc] at b1 b2 b3 b4
  have hB : Below w.heap.size w ((((w.alloc (.cells #[.string { data := #[] }] 9)).alloc (.cells #[.nilIface] 25)).alloc (.cells #[.slice none 0 0] 41)).alloc (.cells #[.int .i64 0] 3)) := ((((Below.refl _ w).alloc (Nat.le_refl _) _).alloc (by simp) _).alloc (by simp; omega) _).alloc (by simp; omega) _
  refine ⟨.slice none 0 0, 0, ⟨(hb.block _ (by omega)).trans ((b1.alloc _).alloc _ |>.alloc _), (hb.block _ (by omega)).trans ((b2.alloc _).alloc _), (hb.block _ (by omega)).trans (b3.alloc _), World.ownsRow_nil _ _ _ _, (hb.block _ (by omega)).trans b4, fun _ _ _ => rfl, KeepsOthers.refl _, Below.refl _ _, Nat.le_refl _⟩, by omega, hB.trans (hb.mono (by omega))⟩
set_option maxRecDepth 100000 in
set_option maxHeartbeats 4000000 in
theorem Load_any (L : List (List UInt8)) (T : List (Option Nat × List UInt8)) (h : Lines L T) (w : World) :
    Calls Tryd.prog 8 #[.string (bstr (Xx.joinNl L))] w fun e w' => e = .returned (.tuple #[.string (bstr (Xx.told T)), .nilIface]) ∧ Below w.heap.size w w' := by
  have HL := Lib.hid h; clear h
  have b0 := Boxed.new w 9 (.string ByteArray.empty)
  have hss := fun w => SplitSeq_any (Xx.joinNl L) w
  have HSS := Lib.hid hss; clear hss
  refine (callsIn_wide (n := 9)).1 ?_
  refine callsIn_of_wp_marks Tryd.func8 rfl trivial ?_ rfl
  simp only [Tryd.ntmps8, List.size_toArray, List.length_cons, List.length_nil, Nat.reduceAdd, Nat.reduceSub, Array.replicate_succ, Array.replicate_zero, List.push_toArray, List.append_toArray, List.nil_append, List.cons_append]
  refine wpIn_wide.2 ?_
  go_wp2_with (go_at_call 21; refine (HSS.out _).mono ?_; rintro e w' ⟨rfl, hSB, hb1, hsz1⟩)
  have hz4 : ((((w.alloc (Obj.cells #[Value.string { data := #[] }] 9)).alloc (Obj.cells #[Value.nilIface] 25)).alloc (Obj.cells #[Value.slice none 0 0] 41)).alloc (Obj.cells #[Value.int IntKind.i64 0] 3)).heap.size = w.heap.size + 1 + 1 + 1 + 1 := by simp
  rw [hz4] at hSB hb1 hsz1
  generalize hB4 : w.heap.size + 1 + 1 + 1 + 1 = B4 at *
  generalize hP3 : w.heap.size + 1 + 1 + 1 = P3 at *
  generalize hP2 : w.heap.size + 1 + 1 = P2 at *
  generalize hP1 : w.heap.size + 1 = P1 at *
  have hB4' : B4 = w.heap.size + 4 := by omega
  obtain rfl : P1 = w.heap.size + 1 := by omega
  obtain rfl : P2 = w.heap.size + 2 := by omega
  obtain rfl : P3 = w.heap.size + 3 := by omega
  have h0 := LdI.start w w' T B4 hB4' hb1 hsz1
  have HB4 := Lib.hid hB4'
  have HSZ := Lib.hid hsz1
  have HL2 := HL.out
  clear hB4 hB4' hb1 b0 hP1 hP2 hP3 hz4 hsz1
  refine (wpIn_wide (n := 9)).1 ?_
  refine' range_cell rfl (by decide) (gf := 48) (lb := #[.pointer (some ⟨B4 + 1, 0, none⟩), .pointer (some ⟨B4, 0, none⟩), .pointer (some ⟨B4 + 2, 0, none⟩)]) rfl trivial (enters_of Tryd.func48 (by kernel_rfl) rfl)
    (split_steps B4 L HL2.ne HL2.no HL2.all w' hSB) (by have := HSZ.out; omega) (fun h k => h.trans k) (fun W l o hl k h1 h2 => World.putObj_heap_other (by have := HSZ.out; omega)) (Below.refl _ _) (fun _ => rfl)
    (LdI w.heap.size w'.heap.size w T) (fun _ _ => False)
    (fun s X Y row hs hg hr => hs.moved hg fun r e => ⟨by have := (hr r e).1; have := HB4.out; have := HSZ.out; omega, fun _ => (hr r e).2⟩)
    (fun _ _ _ _ hs _ _ => hs)
    (fun s X Y row hs hg hr => hs.moved hg fun r e => ⟨by have := hr r e; have := HB4.out; omega, fun h => by have := hr r e; have := HSZ.out; omega⟩)
    (fun _ _ _ _ hs _ _ => hs)
    h0 _ ?assign ?body ?done ?stop
  case assign =>
    intro l x W K hK
    gi_wp2
    exact hK
  case body =>
    rintro l pre x W ⟨v, F, hS, hF, hB⟩ hpre
    obtain ⟨hk, hx⟩ : pre.length < L.length ∧ L.getD pre.length [] = x := by
      obtain ⟨r, hr⟩ := hpre
      rw [← hr]
      exact ⟨by simp, by simp⟩
    have hln := HL2.ln pre.length hk
    rw [hx] at hln
    have hfit := HL2.fits pre.length hk
    have hxl := HL2.short x (by rw [← hx, List.getD_eq_getElem?_getD, List.getElem?_eq_getElem hk]; exact List.getElem_mem hk)
    have hkf := HL2.few
    have htk : T.take (pre.length + 1) = T.take pre.length ++ [T.getD pre.length (none, [])] := by
      have : pre.length < T.length := by rw [HL2.len]; exact hk
      rw [List.take_succ_eq_append_getElem this, List.getD_eq_getElem?_getD, List.getElem?_eq_getElem this]; rfl
    have htold := Xx.told_snoc (T.take pre.length) (T.getD pre.length (none, []))
    rw [← htk] at htold
    generalize (T.getD pre.length (none, [])).1 = ao at *
    generalize (T.getD pre.length (none, [])).2 = b at *
    have HTO := Lib.hid htold
    obtain ⟨out, hout⟩ : ∃ out, out = Xx.told (T.take pre.length) := ⟨_, rfl⟩
    rw [← hout] at hS hfit htold
    have HT2 := Lib.hid htold
    have hline := line_any x ao b W hln hxl
    have HLN := Lib.hid hline
    obtain ⟨a, c, rfl⟩ := ownsForm' hS.own
    have HS := Lib.hid hS; have HB := Lib.hid hB
    have HK := Lib.hid hk; have HF := Lib.hid hF; have HFT := Lib.hid hfit; have HXL := Lib.hid hxl; have HKF := Lib.hid hkf
    have hN : w.heap.size + 7 ≤ w'.heap.size := by have := HSZ.out; have := HB4.out; omega
    have HN := Lib.hid hN
    have hol : ∃ A, A = ao.getD out.length := ⟨_, rfl⟩
    obtain ⟨A, hA⟩ := hol
    have HA := Lib.hid hA
    have HAB := Lib.hid (show A + b.length ≤ 4000 by rw [hA]; exact hfit.2)
    clear hline hln htold HTO hout htk hS hB hx hpre hk hF hfit hxl hN hA hkf
    gi_wp2
    refine ⟨trivial, (CallsIn.inRound l (callsIn_wide.2 HLN.out)).mono ?_⟩
    rintro e w1 ⟨rfl, hb1⟩
    have hS1 := HS.out.grown HN.out hb1
    have HS1 := Lib.hid hS1
    have c2 := hS1.row.cell; have c3 := hS1.frm.cell
    have f2 := hS1.row.frozen; have f3 := hS1.frm.frozen
    clear hS1 hb1
    cases ao with
    | none =>
      have hneg : decide (Xx.atI none < 0) = true := rfl
      have hbF : F ≤ 300000000 := by have := HF.out; have := HK.out; have := HKF.out; omega
      have hbx : x.length ≤ 2000 := HXL.out
      have hbo : out.length + b.length ≤ 4000 := by have := HAB.out; have := HA.out; simp at this; omega
      have hoo : out.length ≤ 4000 := HFT.out.1
      have d4 : decide ((4000 : Int) < ((out.length : Nat) : Int) + ((b.length : Nat) : Int)) = false := decide_eq_false (by omega)
      have d4n : decide (4000 < out.length + b.length) = false := decide_eq_false (by omega)
      have hwA : wrap64 (((out.length : Nat) : Int) + ((b.length : Nat) : Int)) = ((out.length : Nat) : Int) + ((b.length : Nat) : Int) := IntWalk.wrap64_in _ ⟨by omega, by omega⟩
      have hwx : wrap64 (((x.length : Nat) : Int) + 1) = ((x.length : Nat) : Int) + 1 := IntWalk.wrap64_in _ ⟨by omega, by omega⟩
      have hwF : wrap64 (((F : Nat) : Int) + (((x.length : Nat) : Int) + 1)) = ((F : Nat) : Int) + (((x.length : Nat) : Int) + 1) := IntWalk.wrap64_in _ ⟨by omega, by omega⟩
      by_cases hb0 : b = []
      · have hbe : b.isEmpty = true := by rw [hb0]; rfl
        have HB0 := Lib.hid hb0
        clear hb0
        gi_wp2
        have hS2 := HS1.out.stored (F' := F + (x.length + 1)) HN.out
        have hst : Xx.step out none b = out := by rw [Xx.step, if_pos HB0.out]
        have ht := HT2.out
        rw [hst] at ht
        rw [show ((F : Nat) : Int) + (((x.length : Nat) : Int) + 1) = ((F + (x.length + 1) : Nat) : Int) by omega]
        exact LdI.next hS2 ht HF.out HXL.out HB.out HB4.out
      · have hbe : b.isEmpty = false := by cases b with | nil => exact absurd rfl hb0 | cons _ _ => rfl
        have HB0 := Lib.hid hb0
        clear hb0
        gi_wp2
        gi_loopw [] (fun wr => ∃ (q : Nat) (a' : Option Addr) (c' : Nat) (o' : List UInt8), out.length ≤ q ∧ (q = out.length ∨ q ≤ out.length + b.length) ∧ Hid (o' = out ++ List.replicate (q - out.length) 0) ∧ Hid (o'.length = q) ∧ Hid (LdS w.heap.size w'.heap.size W wr (.slice a' q c') o' F)) (fun wr => match wr.cell? ⟨w.heap.size + 2, 0, none⟩ with | some (.slice _ zz _) => out.length + b.length - zz | _ => 0)
        case atStart => exact ⟨out.length, a, c, out, Nat.le_refl _, .inl rfl, Lib.hid (by simp), Lib.hid rfl, HS1⟩
        case round =>
          obtain ⟨q, a', c', o', hqo, hqb, HO, HQ, HSr⟩ := hrel
          have e2 := HSr.out.row.cell; have g2 := HSr.out.row.frozen
          have e3 := HSr.out.frm.cell; have g3 := HSr.out.frm.frozen
          have E2 := Lib.hid e2
          by_cases hlt : q < out.length + b.length
          · have hlt2 : (q : Int) < ((out.length : Nat) : Int) + ((b.length : Nat) : Int) := by omega
            have ho := HSr.out.own
            rw [HQ.out] at ho
            have hzz := HSr.out.sz
            have hnc := (RowAt.new wr 5 #[.int .u8 0]).cell0 0 (by simp)
            simp only [Array.toList, List.getElem_cons_zero] at hnc
            gi_wp2_with (gi_at_builtin; refine wpListIn_push0 _ rfl _ _ 41 rfl w'.heap.size 5 Tryd.underlying41 infoU8 _ q o' rfl (ho.alloc _) _ _ rfl hnc (by omega) (by simp; omega) ?_; intro v' w2 hown' hgrow; obtain ⟨ga, gc, rfl⟩ := ownsForm' hown'; obtain ⟨hr1, hS2⟩ := HSr.out.pushed HN.out hown' (by have := HQ.out; simp; omega) hgrow; have k2 := hr1.cell; have kf := hr1.frozen)
            refine ⟨⟨q + 1, ga, gc, o' ++ [0], by omega, .inr (by omega), Lib.hid ?_, Lib.hid (by have := HQ.out; simp; omega), Lib.hid hS2⟩, ?_⟩
            · rw [HO.out, List.append_assoc, show q + 1 - out.length = (q - out.length) + 1 by omega, List.replicate_succ']
            · rw [hS2.row.cell, E2.out]
              simp only []
              omega
          · have hlt2 : ¬ (q : Int) < ((out.length : Nat) : Int) + ((b.length : Nat) : Int) := by omega
            have hbl : 0 < b.length := List.length_pos_iff.2 HB0.out
            rcases HSr.out.own.2 with ⟨h1, h2⟩ | ⟨g, cap, cur, hv, hNg, hgc, hqc, hcm, hcs, htk⟩
            · exfalso; rw [HQ.out] at h2; omega
            rw [HQ.out] at hv hqc
            obtain ⟨rfl, rfl⟩ : a' = some ⟨g, 0, none⟩ ∧ c' = cap := by injection hv with h1 h2 h3; exact ⟨h1, h3⟩
            have hSr := HSr.out
            rw [← HQ.out] at hSr
            have hcp := LdS.copied (at_ := out.length) (b := b) hSr HN.out hgc (by have := HQ.out; omega)
            have HCP := Lib.hid hcp
            have hcs1 : q ≤ cur.size := by omega
            clear hv htk hcs hcp hSr hNg hcm
            gi_wp2_with (refine wpListIn_copyS _ rfl _ _ 41 9 rfl 5 Tryd.underlying41 (by kernel_rfl) g out.length (q - out.length) (c' - out.length) b cur 5 (by first | rfl | simp) rfl hgc (by omega) (by omega) ?_; intro w3 hw3; have hS3 := HCP.out; rw [← hw3] at hS3; have HS3 := Lib.hid hS3; have k3 := hS3.frm.cell; have kf3 := hS3.frm.frozen; clear hw3 hS3)
            have hS4 := HS3.out.stored (F' := F + (x.length + 1)) HN.out
            have hst : Xx.step out none b = o'.take out.length ++ b ++ o'.drop (out.length + b.length) := by
              have hpad : out ++ List.replicate (out.length + b.length - out.length) 0 = o' := by
                rw [HO.out]
                congr 2
                omega
              unfold Xx.step
              rw [if_neg HB0.out]
              simp only [Option.getD_none, Option.getD_some]
              rw [hpad]
            have ht := HT2.out
            rw [hst] at ht
            rw [show ((F : Nat) : Int) + (((x.length : Nat) : Int) + 1) = ((F + (x.length + 1) : Nat) : Int) by omega]
            exact LdI.next hS4 ht HF.out HXL.out HB.out HB4.out
    | some n =>
      have hat : Xx.atI (some n) = (n : Int) := rfl
      have hneg : decide ((n : Int) < 0) = false := decide_eq_false (by omega)
      have hbF : F ≤ 300000000 := by have := HF.out; have := HK.out; have := HKF.out; omega
      have hbx : x.length ≤ 2000 := HXL.out
      have hbo : n + b.length ≤ 4000 := by have := HAB.out; have := HA.out; simp at this; omega
      have hoo : out.length ≤ 4000 := HFT.out.1
      have d4 : decide ((4000 : Int) < ((n : Nat) : Int) + ((b.length : Nat) : Int)) = false := decide_eq_false (by omega)
      have d4n : decide (4000 < n + b.length) = false := decide_eq_false (by omega)
      have hwA : wrap64 (((n : Nat) : Int) + ((b.length : Nat) : Int)) = ((n : Nat) : Int) + ((b.length : Nat) : Int) := IntWalk.wrap64_in _ ⟨by omega, by omega⟩
      have hwx : wrap64 (((x.length : Nat) : Int) + 1) = ((x.length : Nat) : Int) + 1 := IntWalk.wrap64_in _ ⟨by omega, by omega⟩
      have hwF : wrap64 (((F : Nat) : Int) + (((x.length : Nat) : Int) + 1)) = ((F : Nat) : Int) + (((x.length : Nat) : Int) + 1) := IntWalk.wrap64_in _ ⟨by omega, by omega⟩
      by_cases hb0 : b = []
      · have hbe : b.isEmpty = true := by rw [hb0]; rfl
        have HB0 := Lib.hid hb0
        clear hb0
        gi_wp2
        have hS2 := HS1.out.stored (F' := F + (x.length + 1)) HN.out
        have hst : Xx.step out (some n) b = out := by rw [Xx.step, if_pos HB0.out]
        have ht := HT2.out
        rw [hst] at ht
        rw [show ((F : Nat) : Int) + (((x.length : Nat) : Int) + 1) = ((F + (x.length + 1) : Nat) : Int) by omega]
        exact LdI.next hS2 ht HF.out HXL.out HB.out HB4.out
      · have hbe : b.isEmpty = false := by cases b with | nil => exact absurd rfl hb0 | cons _ _ => rfl
        have HB0 := Lib.hid hb0
        clear hb0
        gi_wp2
        gi_loopw [] (fun wr => ∃ (q : Nat) (a' : Option Addr) (c' : Nat) (o' : List UInt8), out.length ≤ q ∧ (q = out.length ∨ q ≤ n + b.length) ∧ Hid (o' = out ++ List.replicate (q - out.length) 0) ∧ Hid (o'.length = q) ∧ Hid (LdS w.heap.size w'.heap.size W wr (.slice a' q c') o' F)) (fun wr => match wr.cell? ⟨w.heap.size + 2, 0, none⟩ with | some (.slice _ zz _) => n + b.length - zz | _ => 0)
        case atStart => exact ⟨out.length, a, c, out, Nat.le_refl _, .inl rfl, Lib.hid (by simp), Lib.hid rfl, HS1⟩
        case round =>
          obtain ⟨q, a', c', o', hqo, hqb, HO, HQ, HSr⟩ := hrel
          have e2 := HSr.out.row.cell; have g2 := HSr.out.row.frozen
          have e3 := HSr.out.frm.cell; have g3 := HSr.out.frm.frozen
          have E2 := Lib.hid e2
          by_cases hlt : q < n + b.length
          · have hlt2 : (q : Int) < ((n : Nat) : Int) + ((b.length : Nat) : Int) := by omega
            have ho := HSr.out.own
            rw [HQ.out] at ho
            have hzz := HSr.out.sz
            have hnc := (RowAt.new wr 5 #[.int .u8 0]).cell0 0 (by simp)
            simp only [Array.toList, List.getElem_cons_zero] at hnc
            gi_wp2_with (gi_at_builtin; refine wpListIn_push0 _ rfl _ _ 41 rfl w'.heap.size 5 Tryd.underlying41 infoU8 _ q o' rfl (ho.alloc _) _ _ rfl hnc (by omega) (by simp; omega) ?_; intro v' w2 hown' hgrow; obtain ⟨ga, gc, rfl⟩ := ownsForm' hown'; obtain ⟨hr1, hS2⟩ := HSr.out.pushed HN.out hown' (by have := HQ.out; simp; omega) hgrow; have k2 := hr1.cell; have kf := hr1.frozen)
            refine ⟨⟨q + 1, ga, gc, o' ++ [0], by omega, .inr (by omega), Lib.hid ?_, Lib.hid (by have := HQ.out; simp; omega), Lib.hid hS2⟩, ?_⟩
            · rw [HO.out, List.append_assoc, show q + 1 - out.length = (q - out.length) + 1 by omega, List.replicate_succ']
            · rw [hS2.row.cell, E2.out]
              simp only []
              omega
          · have hlt2 : ¬ (q : Int) < ((n : Nat) : Int) + ((b.length : Nat) : Int) := by omega
            have hbl : 0 < b.length := List.length_pos_iff.2 HB0.out
            rcases HSr.out.own.2 with ⟨h1, h2⟩ | ⟨g, cap, cur, hv, hNg, hgc, hqc, hcm, hcs, htk⟩
            · exfalso; rw [HQ.out] at h2; omega
            rw [HQ.out] at hv hqc
            obtain ⟨rfl, rfl⟩ : a' = some ⟨g, 0, none⟩ ∧ c' = cap := by injection hv with h1 h2 h3; exact ⟨h1, h3⟩
            have hSr := HSr.out
            rw [← HQ.out] at hSr
            have hcp := LdS.copied (at_ := n) (b := b) hSr HN.out hgc (by have := HQ.out; omega)
            have HCP := Lib.hid hcp
            have hcs1 : q ≤ cur.size := by omega
            clear hv htk hcs hcp hSr hNg hcm
            gi_wp2_with (refine wpListIn_copyS _ rfl _ _ 41 9 rfl 5 Tryd.underlying41 (by kernel_rfl) g n (q - n) (c' - n) b cur 5 (by first | rfl | simp) rfl hgc (by omega) (by omega) ?_; intro w3 hw3; have hS3 := HCP.out; rw [← hw3] at hS3; have HS3 := Lib.hid hS3; have k3 := hS3.frm.cell; have kf3 := hS3.frm.frozen; clear hw3 hS3)
            have hS4 := HS3.out.stored (F' := F + (x.length + 1)) HN.out
            have hst : Xx.step out (some n) b = o'.take n ++ b ++ o'.drop (n + b.length) := by
              have hpad : out ++ List.replicate (n + b.length - out.length) 0 = o' := by
                rw [HO.out]
                congr 2
                omega
              unfold Xx.step
              rw [if_neg HB0.out]
              simp only [Option.getD_none, Option.getD_some]
              rw [hpad]
            have ht := HT2.out
            rw [hst] at ht
            rw [show ((F : Nat) : Int) + (((x.length : Nat) : Int) + 1) = ((F + (x.length + 1) : Nat) : Int) by omega]
            exact LdI.next hS4 ht HF.out HXL.out HB.out HB4.out
  case done =>
    rintro D W hD ⟨v, F, hS, hF, hB⟩ hK
    have hlt : T.take L.length = T := List.take_of_length_le (by rw [HL.out.len]; exact Nat.le_refl _)
    rw [hlt] at hS
    obtain ⟨a, c, rfl⟩ := ownsForm' hS.own
    have hcv := conv_own hS.own
    have c0 := hS.res.cell; have g0 := hS.res.frozen
    have c1 := hS.err.cell; have g1 := hS.err.frozen
    have c2 := hS.row.cell
    have HS := Lib.hid hS; have HB := Lib.hid hB; have HKD := Lib.hid hK
    clear hS hB hK hlt hF
    go_wp2_with fail
    have hD7 : w.heap.size + 7 ≤ D := by have := HSZ.out; have := HB4.out; omega
    have r0 := (HS.out.res.set (.string (bstr (Xx.told T)))).other (B' := w.heap.size + 1) (by omega) .nilIface
    have r1 := (HS.out.err.other (B' := w.heap.size) (by omega) (.string (bstr (Xx.told T)))).set .nilIface
    have hbe : Below w.heap.size w ((W.setCell ⟨w.heap.size, 0, none⟩ (.string (bstr (Xx.told T)))).setCell ⟨w.heap.size + 1, 0, none⟩ .nilIface) := (HB.out.setCell (p := ⟨w.heap.size, 0, none⟩) (Nat.le_refl _) _).setCell (p := ⟨w.heap.size + 1, 0, none⟩) (Nat.le_succ _) _
    have hKD : ((W.setCell ⟨w.heap.size, 0, none⟩ (.string (bstr (Xx.told T)))).setCell ⟨w.heap.size + 1, 0, none⟩ .nilIface).heap[D]? = some (.deferred (some [])) :=
      ((Below.heap_setCell _ _ _ _ (show D ≠ w.heap.size + 1 by omega)).trans (Below.heap_setCell _ _ _ _ (show D ≠ w.heap.size by omega))).trans HKD.out
    clear c0 g0 c1 g1 c2 hcv
    generalize (W.setCell ⟨w.heap.size, 0, none⟩ (.string (bstr (Xx.told T)))).setCell ⟨w.heap.size + 1, 0, none⟩ .nilIface = W2 at *
    have e0 := (r0.kept (grownBy_putObj' W2 D (.deferred none)) (fun e => by injection e with e; omega)).cell
    have e1 := (r1.kept (grownBy_putObj' W2 D (.deferred none)) (fun e => by injection e with e; omega)).cell
    have hbf : Below w.heap.size w (W2.putObj D (.deferred none)) := hbe.grown (grownBy_putObj' W2 D (.deferred none)) (by have := r0.lt; omega) (fun k e => by injection e with e; omega)
    refine ⟨by simp, .inl ⟨_, _, rfl, run_takeDeferred hKD, ?_⟩⟩
    exact ⟨.tuple #[.string (bstr (Xx.told T)), .nilIface], by simp [results, Tryd.results8, go_sem, e0, e1], rfl, hbf⟩
  case stop =>
    rintro D pre W _ h _
    exact h.elim
end Go.Proofs.YtenhblpegobbjaaDoor
