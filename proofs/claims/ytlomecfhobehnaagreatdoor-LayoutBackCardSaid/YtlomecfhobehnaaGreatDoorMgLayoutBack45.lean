/- layout's writer: one of an item, where it writes. -/
import Derived.Test.YtlomecfhobehnaaGreatDoorMgLayoutBack44
section
/- layout's writer: what trees are like; refuse. -/
namespace Go.Proofs.YtlomecfhobehnaaGreatDoor
open Go Go.RowKit
set_option linter.unusedVariables false
set_option linter.unusedSimpArgs false
open Rd
open Ly
namespace Ly
/-- how much text a tree may be -/
def Nds.tot : Nds → Nat
  | .nil => 0
  | .cons _ _ _ _ _ tx ks r => tx.length + 8 + ks.tot + r.tot
/-- numbers are ints -/
def Nds.ok : Nds → Prop
  | .nil => True
  | .cons _ _ _ _ v _ ks r => Ex.InR v ∧ ks.ok ∧ r.ok
def Nd.tot (d : Nd) : Nat := d.text.length + 8 + d.kids.tot
def Nd.ok (d : Nd) : Prop := Ex.InR d.val ∧ d.kids.ok
def Nds.drop : Nat → Nds → Nds
  | 0, l => l
  | _ + 1, .nil => .nil
  | n + 1, .cons _ _ _ _ _ _ _ r => r.drop n
theorem Nds.drop_len : ∀ l : Nds, l.drop l.len = .nil
  | .nil => rfl
  | .cons _ _ _ _ _ _ _ r => Nds.drop_len r
theorem Nds.drop_lt : ∀ (l : Nds) (i : Nat), i < l.len → ∃ (d : Nd) (r : Nds), l.drop i = d.put r ∧ l.drop (i + 1) = r
  | .nil, i, h => by simp [Nds.len] at h
  | .cons a b c d e f g r, 0, _ => ⟨⟨a, b, c, d, e, f, g⟩, r, rfl, by cases r <;> rfl⟩
  | .cons _ _ _ _ _ _ _ r, i + 1, h => Nds.drop_lt r i (by simp [Nds.len] at h; omega)
theorem Nds.drop_tot : ∀ (l : Nds) (i : Nat), (l.drop i).tot ≤ l.tot
  | l, 0 => by cases l <;> exact Nat.le_refl _
  | .nil, i + 1 => Nat.le_refl _
  | .cons _ _ _ _ _ _ _ r, i + 1 => by have := Nds.drop_tot r i; simp only [Nds.drop, Nds.tot]; omega
theorem Nds.drop_ok : ∀ (l : Nds) (i : Nat), l.ok → (l.drop i).ok
  | l, 0, h => by cases l <;> exact h
  | .nil, i + 1, h => h
  | .cons _ _ _ _ _ _ _ r, i + 1, h => Nds.drop_ok r i h.2.2
theorem put_tot (d : Nd) (r : Nds) : (d.put r).tot = d.tot + r.tot := rfl
theorem put_ok {d : Nd} {r : Nds} (h : (d.put r).ok) : d.ok ∧ r.ok := ⟨⟨h.1, h.2.1⟩, h.2.2⟩
/-- what is written is no more than what there is -/
theorem put_len (w : Tm.Wd) (v : Int) : (putW w v).length = widW w := by unfold putW putB; simp
end Ly
theorem wid_le (w : Tm.Wd) : widW w ≤ 8 := by
  cases hk : Tm.kindOf w with
  | none => unfold widW; rw [hk]; exact Nat.zero_le _
  | some k => have := (word_ok (show (Tm.kindOf w).isSome = true by rw [hk]; rfl)).1; omega
namespace Ly
/-- writers that write no more than there is -/
def WriLe (W : Wri) : Prop := ∀ nm ks u, W nm ks = some u → u.length ≤ ks.tot
theorem oneW_le {W : Wri} (hW : WriLe W) {h : Tm.Hd} {d : Nd} {u : Tm.Wd} (ho : oneW W h d = some u) : u.length ≤ d.tot := by
  unfold oneW at ho
  unfold Nd.tot
  split at ho
  · cases ho
  · cases hk : h.k with
    | scalar w =>
      rw [hk] at ho
      simp only [] at ho
      split at ho
      · cases ho
        rw [put_len]
        have := wid_le w
        omega
      · cases ho
    | bytes => rw [hk] at ho; cases ho; omega
    | struct t => rw [hk] at ho; have := hW _ _ _ ho; omega
theorem repW_le {f : Nd → Option Tm.Wd} (hf : ∀ d u, f d = some u → u.length ≤ d.tot) : ∀ (ks : Nds) (u : Tm.Wd), repW f ks = some u → u.length ≤ ks.tot
  | .nil, u, h => by cases h; exact Nat.zero_le _
  | .cons a b c d e g k r, u, h => by
    unfold repW at h
    cases h1 : f ⟨a, b, c, d, e, g, k⟩ with
    | none => rw [h1] at h; cases h
    | some x =>
      rw [h1] at h
      simp only [Option.bind_some] at h
      cases h2 : repW f r with
      | none => rw [h2] at h; cases h
      | some y =>
        rw [h2] at h
        cases h
        have g1 := hf _ _ h1; have g2 := repW_le hf r y h2
        simp only [Nd.tot] at g1
        simp only [List.length_append, Nds.tot]
        omega
theorem partW_le {W : Wri} (hW : WriLe W) {h : Tm.Hd} {d : Nd} {u : Tm.Wd} (ho : partW W h d = some u) : u.length ≤ d.tot := by
  unfold partW at ho
  split at ho
  · split at ho
    · cases ho
    · have := repW_le (fun d u h => oneW_le hW h) _ _ ho
      unfold Nd.tot
      omega
  · exact oneW_le hW ho
/-- what a 'when' holds, written -/
def bodyW (W : Wri) (body : Tm.Its) (e : Int) (k : Nds) : Option Tm.Wd := if e = 0 then (match k with | .nil => some [] | .cons _ _ _ _ _ _ _ _ => none) else itsW W body k
theorem itsW_when (W : Wri) (a0 : Nat) (c0 : Ex.X) (body l : Tm.Its) (nm : Tm.Wd) (kd at_ sz : Nat) (e : Int) (tx : Tm.Wd) (k r : Nds) : itsW W (.when a0 c0 body l) (.cons nm kd at_ sz e tx k r) = if nm ≠ [] ∨ kd ≠ 4 then none else (bodyW W body e k).bind fun u => (itsW W l r).map (u ++ ·) := by cases k <;> rfl
theorem itsW_le {W : Wri} (hW : WriLe W) : ∀ (l : Tm.Its) (ks : Nds) (u : Tm.Wd), itsW W l ks = some u → u.length ≤ ks.tot
  | .nil, .nil, u, h => by cases h; exact Nat.zero_le _
  | .nil, .cons .., u, h => by cases h
  | .cons h l, .nil, u, e => by cases e
  | .cons h l, .cons a b c d e g k r, u, ho => by
    unfold itsW at ho
    cases h1 : partW W h ⟨a, b, c, d, e, g, k⟩ with
    | none => rw [h1] at ho; cases ho
    | some x =>
      rw [h1] at ho
      simp only [Option.bind_some] at ho
      cases h2 : itsW W l r with
      | none => rw [h2] at ho; cases ho
      | some y =>
        rw [h2] at ho
        cases ho
        have g1 := partW_le hW h1; have g2 := itsW_le hW l r y h2
        simp only [Nd.tot] at g1
        simp only [List.length_append, Nds.tot]
        omega
  | .when _ _ _ _, .nil, u, e => by cases e
  | .when _ _ body l, .cons a b c d e g k r, u, ho => by
    rw [itsW_when] at ho
    split at ho
    · cases ho
    · cases h1 : bodyW W body e k with
      | none => rw [h1] at ho; cases ho
      | some x =>
        rw [h1] at ho
        simp only [Option.bind_some] at ho
        cases h2 : itsW W l r with
        | none => rw [h2] at ho; cases ho
        | some y =>
          rw [h2] at ho
          cases ho
          have g2 := itsW_le hW l r y h2
          have g1 : x.length ≤ k.tot := by
            unfold bodyW at h1
            split at h1
            · split at h1
              · cases h1; exact Nat.zero_le _
              · cases h1
            · exact itsW_le hW body k x h1
          simp only [List.length_append, Nds.tot]
          omega
theorem wrS_le : ∀ l : List Tm.Ty, WriLe (wrS l)
  | [], nm, ks, u, h => by cases h
  | t :: r, nm, ks, u, h => by
    unfold wrS at h
    split at h
    · exact itsW_le (wrS_le r) _ _ _ h
    · exact wrS_le r nm ks u h
theorem itsW_len {W : Wri} : ∀ (l : Tm.Its) (ks : Nds) (u : Tm.Wd), itsW W l ks = some u → l.len = ks.len
  | .nil, .nil, u, h => rfl
  | .nil, .cons .., u, h => by cases h
  | .cons h l, .nil, u, e => by cases e
  | .cons h l, .cons a b c d e g k r, u, ho => by
    unfold itsW at ho
    cases h1 : partW W h ⟨a, b, c, d, e, g, k⟩ with
    | none => rw [h1] at ho; cases ho
    | some x =>
      rw [h1] at ho
      simp only [Option.bind_some] at ho
      cases h2 : itsW W l r with
      | none => rw [h2] at ho; cases ho
      | some y => simp only [Tm.Its.len, Nds.len]; rw [itsW_len l r y h2]
  | .when _ _ _ _, .nil, u, e => by cases e
  | .when _ _ body l, .cons a b c d e g k r, u, ho => by
    rw [itsW_when] at ho
    split at ho
    · cases ho
    · cases h1 : bodyW W body e k with
      | none => rw [h1] at ho; cases ho
      | some x =>
        rw [h1] at ho
        simp only [Option.bind_some] at ho
        cases h2 : itsW W l r with
        | none => rw [h2] at ho; cases ho
        | some y => simp only [Tm.Its.len, Nds.len]; rw [itsW_len l r y h2]
end Ly
/-- how a writer ends -/
def WrOut (w : World) (o : Option Tm.Wd) (e : Ending) (w' : World) : Prop := Below w.heap.size w w' ∧ match o with
  | some u => e = .returned (.string (bstr u))
  | none => LBad e
set_option maxRecDepth 100000 in
theorem refuse_no (w : World) : Calls Tryz.prog 66 #[.bool false] w fun e w' => e = .returned (.tuple #[]) ∧ w = w' := by
  go_enter Tryz.func66, Tryz.ntmps66
  go_wp2_with fail
  refine bodyPost_end (results_none rfl _ _ _) rfl ?_
  exact ⟨rfl, rfl⟩
set_option maxRecDepth 100000 in
theorem refuse_yes (w : World) : Calls Tryz.prog 66 #[.bool true] w fun e w' => LBad e ∧ Below w.heap.size w w' := by
  have hb := Below.refl w.heap.size w
  go_enter Tryz.func66, Tryz.ntmps66
  go_wp2_with fail
  exact ⟨rfl, ⟨_, _, rfl⟩, hb⟩
end Go.Proofs.YtlomecfhobehnaaGreatDoor
end
section
/- layout's writer: one of an item, where it writes. -/
namespace Go.Proofs.YtlomecfhobehnaaGreatDoor
open Go Go.RowKit
set_option linter.unusedVariables false
set_option linter.unusedSimpArgs false
open Rd
open Ly
/-- how a writer that writes ends -/
def WriteOut (w : World) (u : Tm.Wd) (e : Ending) (w' : World) : Prop := Below w.heap.size w w' ∧ e = .returned (.string (bstr u))
namespace Ly
theorem oneW_some {W : Wri} {h : Tm.Hd} {d : Nd} {u : Tm.Wd} (ho : oneW W h d = some u) : d.name = h.name ∧ d.kind = kNo h.k ∧ (match h.k with
  | .scalar w => (if fitsW w d.val then some (putW w d.val) else none)
  | .bytes => some d.text
  | .struct t => W t d.kids) = some u := by
  unfold oneW at ho
  split at ho
  · cases ho
  · rename_i hno
    rw [not_or] at hno
    exact ⟨Classical.not_not.1 hno.1, Classical.not_not.1 hno.2, ho⟩
end Ly
set_option maxRecDepth 100000 in
set_option maxHeartbeats 1000000 in
theorem onew_bytes (fv sv cv : Value) (gn on g o : Nat) (W : Wri) (h : Tm.Hd) (d : Nd) (u : Tm.Wd) (w : World) (hk : h.k = .bytes) (ho : oneW W h d = some u) (hr : RowAt w g o 70 (Tm.hdCells h cv)) (hn : RowAt w gn on 28 (ndCells d.name d.kind d.at_ d.size d.val d.text sv)) :
    Calls Tryz.prog 33 #[fv, .pointer (some ⟨g, o, none⟩), .pointer (some ⟨gn, on, none⟩)] w (WriteOut w u) := by
  obtain ⟨hnm, hkd, hu⟩ := oneW_some ho
  rw [hk] at hkd hu
  have hkd : d.kind = 2 := hkd
  have hu2 : d.text = u := by injection hu
  subst hu2
  clear ho hu
  have n0 := hn.cell 0 (by simp [ndCells]); have n1 := hn.cell 1 (by simp [ndCells])
  have k0 := hr.cell 0 (by simp [Tm.hdCells_len]); have k2 := hr.cell 2 (by simp [Tm.hdCells_len])
  simp only [ndCells, List.getElem_cons_zero, List.getElem_cons_succ, Nat.add_zero] at n0 n1
  simp only [Tm.hdCells, hk, Tm.kindN, List.getElem_cons_zero, List.getElem_cons_succ, Nat.add_zero] at k0 k2
  have HR := Lib.hid hr; have HN := Lib.hid hn
  rw [hnm] at n0
  rw [hkd] at n1
  clear hr hn hnm hkd
  go_enter Tryz.func33, Tryz.ntmps33
  go_wp2_with fail
  go_still_tail 20, (by kernel_rfl)
  change wpList _ _ _ _ _ w.drew
  go_wp2_with fail
  refine (refuse_no _).mono ?_
  rintro e w1 ⟨rfl, rfl⟩
  clear n0 n1 k2
  obtain ⟨V, hV⟩ : ∃ V, V = w.drew := ⟨_, rfl⟩
  rw [← hV]
  have hbV : Below w.heap.size w V := by rw [hV]; exact (Below.refl _ _).drew
  have hrV := HR.out.below hbV HR.out.lt
  have hnV := HN.out.below hbV HN.out.lt
  have k0 := hrV.cell 0 (by simp [Tm.hdCells_len]); have n5 := hnV.cell 5 (by simp [ndCells])
  simp only [Tm.hdCells, hk, Tm.kindN, ndCells, List.getElem_cons_zero, List.getElem_cons_succ, Nat.add_zero] at k0 n5
  have HBV := Lib.hid hbV
  clear hV hbV hrV hnV
  go_wp2_with fail
  go_ret
  exact ⟨HBV.out, rfl⟩
theorem fits_yes {wd : Tm.Wd} {v : Int} (h : fitsW wd v = true) : (sgdW wd = true → (sgnI (u64N v) (widW wd) == v) = true) ∧ (sgdW wd = false → (decide (0 ≤ v) && (((unsN (u64N v) (widW wd) : Nat) : Int) == ((u64N v : Nat) : Int))) = true) := by
  unfold fitsW at h
  constructor
  · intro hs
    rw [hs, if_pos rfl] at h
    rw [beq_iff_eq]; exact of_decide_eq_true h
  · intro hs
    rw [hs, if_neg (by decide)] at h
    rw [Bool.and_eq_true] at h ⊢
    refine ⟨h.1, ?_⟩
    rw [beq_iff_eq]
    have := of_decide_eq_true h.2
    omega
set_option maxRecDepth 100000 in
set_option maxHeartbeats 1000000 in
theorem onew_scalar (fv sv cv : Value) (gn on g o : Nat) (W : Wri) (h : Tm.Hd) (wd : Tm.Wd) (d : Nd) (u : Tm.Wd) (w : World) (hk : h.k = .scalar wd) (hkw : (Tm.kindOf wd).isSome = true) (hv : Ex.InR d.val) (ho : oneW W h d = some u) (hr : RowAt w g o 70 (Tm.hdCells h cv)) (hn : RowAt w gn on 28 (ndCells d.name d.kind d.at_ d.size d.val d.text sv)) :
    Calls Tryz.prog 33 #[fv, .pointer (some ⟨g, o, none⟩), .pointer (some ⟨gn, on, none⟩)] w (WriteOut w u) := by
  obtain ⟨hnm, hkd, hu⟩ := oneW_some ho
  rw [hk] at hkd hu
  have hkd : d.kind = 1 := hkd
  have hu1 : (if fitsW wd d.val = true then some (putW wd d.val) else none) = some u := hu
  have hfit : fitsW wd d.val = true := by
    cases hf : fitsW wd d.val with
    | true => rfl
    | false => rw [hf] at hu1; cases hu1
  rw [if_pos hfit] at hu1
  have hu2 : putW wd d.val = u := by injection hu1
  obtain ⟨kv1, kv2, kv3⟩ := kindV_eq hkw
  obtain ⟨wo1, wo2, wo3⟩ := word_ok hkw
  obtain ⟨fy1, fy2⟩ := fits_yes hfit
  have HU := Lib.hid hu2
  clear ho hu hu1 hu2 hfit
  have n0 := hn.cell 0 (by simp [ndCells]); have n1 := hn.cell 1 (by simp [ndCells])
  have k0 := hr.cell 0 (by simp [Tm.hdCells_len]); have k2 := hr.cell 2 (by simp [Tm.hdCells_len])
  simp only [ndCells, List.getElem_cons_zero, List.getElem_cons_succ, Nat.add_zero] at n0 n1
  simp only [Tm.hdCells, hk, Tm.kindN, List.getElem_cons_zero, List.getElem_cons_succ, Nat.add_zero] at k0 k2
  have HR := Lib.hid hr; have HN := Lib.hid hn
  rw [hnm] at n0
  rw [hkd] at n1
  clear hr hn hnm hkd
  go_enter Tryz.func33, Tryz.ntmps33
  go_wp2_with fail
  go_still_tail 20, (by kernel_rfl)
  change wpList _ _ _ _ _ w.drew
  go_wp2_with fail
  refine (refuse_no _).mono ?_
  rintro e w1 ⟨rfl, rfl⟩
  clear n0 n1 k2
  obtain ⟨V, hV⟩ : ∃ V, V = w.drew := ⟨_, rfl⟩
  rw [← hV]
  have hbV : Below w.heap.size w V := by rw [hV]; exact (Below.refl _ _).drew
  have hrV := HR.out.below hbV HR.out.lt
  have hnV := HN.out.below hbV HN.out.lt
  have k0 := hrV.cell 0 (by simp [Tm.hdCells_len]); have k4 := hrV.cell 4 (by simp [Tm.hdCells_len]); have k5 := hrV.cell 5 (by simp [Tm.hdCells_len]); have k6 := hrV.cell 6 (by simp [Tm.hdCells_len]); have n4 := hnV.cell 4 (by simp [ndCells])
  simp only [Tm.hdCells, hk, Tm.kindN, Tm.kindW, ndCells, List.getElem_cons_zero, List.getElem_cons_succ, Nat.add_zero] at k0 k4 k5 k6 n4
  rw [kv1] at k4
  rw [kv2] at k5
  rw [kv3] at k6
  have HFT := Lib.hid (fun W => Fits_true d.val (widW wd) W hv.1 hv.2 (by omega) (by omega)); have HFF := Lib.hid (fun W => Fits_false d.val (widW wd) W hv.1 hv.2 (by omega) (by omega))
  have HPUT := Lib.hid (fun W => Put_any (u64N d.val) (widW wd) (ordW wd) W wo1 wo2)
  have HBV := Lib.hid hbV; have HRV := Lib.hid hrV; have HNV := Lib.hid hnV
  have wu : IntKind.u64.wrap d.val = ((u64N d.val : Nat) : Int) := u64N_wrap d.val
  obtain ⟨dv, hdv⟩ : ∃ dv, dv = d.val := ⟨_, rfl⟩
  rw [← hdv] at n4 HFT HFF HPUT fy1 fy2 wu
  have HDV := Lib.hid hdv
  clear hV hbV hrV hnV hv hdv wo1 wo2 wo3
  have hFIT : ∀ W, Calls Tryz.prog 39 #[.int .i64 dv, .int .i64 (widW wd : Nat), .bool (sgdW wd)] W fun e w' => e = .returned (.bool true) ∧ W = w' := by
    intro W
    cases hs : sgdW wd with
    | true => have := HFT.out W; rw [fy1 hs] at this; exact this
    | false => have := HFF.out W; rw [fy2 hs] at this; exact this
  have HFIT := Lib.hid hFIT
  clear hFIT fy1 fy2
  go_wp2_with fail
  go_quiet (first | (go_at_call 39; with_reducible exact Calls.quiet_of_same (turn (HFIT.out _))) | (go_at_call 66; with_reducible exact Calls.quiet_of_same (turn (refuse_no _))))
  obtain ⟨V2, hV2⟩ : ∃ V2, V2 = V.drewN nq := ⟨_, rfl⟩
  rw [← hV2]
  have hb2 : Below w.heap.size w V2 := by rw [hV2]; exact bdrewN HBV.out _
  have hr2 : RowAt V2 g o 70 (Tm.hdCells h cv) := by rw [hV2]; exact HRV.out.drewN _
  have hn2 : RowAt V2 gn on 28 (ndCells d.name d.kind d.at_ d.size d.val d.text sv) := by rw [hV2]; exact HNV.out.drewN _
  have hSS : ∀ W, Below w.heap.size w W → RowAt W g o 70 (Tm.hdCells h cv) → RowAt W gn on 28 (ndCells d.name d.kind d.at_ d.size d.val d.text sv) → W.cell? ⟨gn, on + 4, none⟩ = some (.int .i64 dv) ∧ W.cell? ⟨g, o + 4, none⟩ = some (.int .i64 (widW wd : Nat)) ∧ W.cell? ⟨g, o + 5, none⟩ = some (.int .i64 (ordW wd : Nat)) ∧ Hid (Below w.heap.size w W ∧ RowAt W g o 70 (Tm.hdCells h cv) ∧ RowAt W gn on 28 (ndCells d.name d.kind d.at_ d.size d.val d.text sv)) := by
    intro W hb hr hn
    have k4 := hr.cell 4 (by simp [Tm.hdCells_len]); have k5 := hr.cell 5 (by simp [Tm.hdCells_len]); have n4 := hn.cell 4 (by simp [ndCells])
    simp only [Tm.hdCells, hk, Tm.kindW, ndCells, List.getElem_cons_zero, List.getElem_cons_succ, Nat.add_zero] at k4 k5 n4
    rw [kv1] at k4
    rw [kv2] at k5
    rw [← HDV.out] at n4
    exact ⟨n4, k4, k5, Lib.hid ⟨hb, hr, hn⟩⟩
  have hS0 := hSS V2 hb2 hr2 hn2
  have hS1 := hSS V2.drew hb2.drew hr2.drew hn2.drew
  have HSS := Lib.hid hSS
  clear hV2 hb2 hr2 hn2 hSS k0 k4 k5 k6 n4
  have k4 := hS0.2.1; have k5 := hS0.2.2.1; have n4 := hS0.1
  go_wp2_with fail
  go_region_held3 (fun W => W.cell? ⟨gn, on + 4, none⟩ = some (.int .i64 dv) ∧ W.cell? ⟨g, o + 4, none⟩ = some (.int .i64 (widW wd : Nat)) ∧ W.cell? ⟨g, o + 5, none⟩ = some (.int .i64 (ordW wd : Nat)) ∧ Hid (Below w.heap.size w W ∧ RowAt W g o 70 (Tm.hdCells h cv) ∧ RowAt W gn on 28 (ndCells d.name d.kind d.at_ d.size d.val d.text sv)))
    (first
      | exact hS1
      | assumption)
    (first
      | (go_at_call 67; (with_reducible refine (HPUT.out _).mono ?_); (rintro e w6 ⟨rfl, hb6⟩); (have hS6 := HSS.out w6 (hS1.2.2.2.out.1.trans (hb6.mono hS1.2.2.2.out.1.size)) (hS1.2.2.2.out.2.1.below hb6 hS1.2.2.2.out.2.1.lt) (hS1.2.2.2.out.2.2.below hb6 hS1.2.2.2.out.2.2.lt))))
  all_goals
    go_wp2_with fail
    go_ret
    refine ⟨hS6.2.2.2.out.1, ?_⟩
    rw [← HU.out]
    unfold putW
    rw [← HDV.out]
    rfl
/-- the contract of items -/
def ItsWr (A : List Tm.Ty) (W : Wri) (l : Tm.Its) : Prop := ∀ (U w : World) (rb fb cap gcap B : Nat) (ga gk : Option Addr) (bs vs : List Value) (ks : Nds) (b1 : List Nat) (u : Tm.Wd), Below U.heap.size U w → FormM U w rb fb A → Owns U (rb + 1) 70 13 ga l.len cap bs → Tm.EncI U rb l bs →
  Owns w B 28 7 gk ks.len gcap vs → EncN w B ks b1 vs → ks.ok → ks.tot ≤ 1000000 → itsW W l ks = some u →
  Calls Tryz.prog 68 #[.map (some fb), .slice ga l.len cap, .slice gk ks.len gcap] w (WriteOut w u)
/-- the structs that an item may be of -/
def SubW (A : List Tm.Ty) (W : Wri) (nm : Tm.Wd) : Prop := ∃ t ∈ A, t.name = nm ∧ t.name.length ≤ 100000 ∧ ∃ W', (∀ ks, W t.name ks = itsW W' t.items ks) ∧ ItsWr A W' t.items
set_option maxRecDepth 100000 in
set_option maxHeartbeats 1000000 in
theorem onew_struct (A : List Tm.Ty) (W W' : Wri) (t : Tm.Ty) (ht : t ∈ A) (hW : ∀ ks, W t.name ks = itsW W' t.items ks) (hI : ItsWr A W' t.items) (htl : t.name.length ≤ 100000) (cv : Value) (gn on g o : Nat) (h : Tm.Hd) (d : Nd) (u : Tm.Wd) (U w : World) (rb fb B gcap : Nat) (gk : Option Addr) (vs : List Value) (b1 : List Nat)
    (hU : Below U.heap.size U w) (hfm : FormM U w rb fb A) (hk : h.k = .struct t.name) (ho : oneW W h d = some u) (hr : RowAt w g o 70 (Tm.hdCells h cv)) (hn : RowAt w gn on 28 (ndCells d.name d.kind d.at_ d.size d.val d.text (.slice gk d.kids.len gcap)))
    (hok : d.kids.ok) (htot : d.kids.tot ≤ 1000000) (hkO : Owns w B 28 7 gk d.kids.len gcap vs) (hkE : EncN w B d.kids b1 vs) :
    Calls Tryz.prog 33 #[.map (some fb), .pointer (some ⟨g, o, none⟩), .pointer (some ⟨gn, on, none⟩)] w (WriteOut w u) := by
  obtain ⟨hnm, hkd, hu⟩ := oneW_some ho
  rw [hk] at hkd hu
  have hkd : d.kind = 3 := hkd
  have hu2 : itsW W' t.items d.kids = some u := (hW d.kids).symm.trans hu
  obtain ⟨ga, cap, bs, hoi, hen, hlk⟩ := hfm.look ht htl
  have hC := fun X (hX : Below w.heap.size w X) => hI U X rb fb cap gcap B ga gk bs vs d.kids b1 u (hU.trans (hX.mono hU.size)) (hfm.keep (hX.block _ hfm.lt)) hoi hen (hkO.below hX (Nat.le_refl _)) (hkE.keep _ _ _ (fun b hb => hX.block b (hkE.mem _ _ _ b hb).2)) hok htot hu2
  have HC := Lib.hid hC
  have hlk0 : ∀ j, (Instr.lookup 59 (.map (some fb)) (.string (bstr t.name)) false).run Tryz.prog (w.drewN j) = .ok (.slice ga t.items.len cap) (w.drewN j) := fun j => hlk _ rfl
  have HLK := Lib.hid hlk
  have HFL := Lib.hid hfm.lt
  clear ho hu hu2 hfm hC hlk hlk0 hoi hen hkO hkE hU hW
  have n0 := hn.cell 0 (by simp [ndCells]); have n1 := hn.cell 1 (by simp [ndCells])
  have k0 := hr.cell 0 (by simp [Tm.hdCells_len]); have k2 := hr.cell 2 (by simp [Tm.hdCells_len])
  simp only [ndCells, List.getElem_cons_zero, List.getElem_cons_succ, Nat.add_zero] at n0 n1
  simp only [Tm.hdCells, hk, Tm.kindN, List.getElem_cons_zero, List.getElem_cons_succ, Nat.add_zero] at k0 k2
  have HR := Lib.hid hr; have HN := Lib.hid hn
  rw [hnm] at n0
  rw [hkd] at n1
  clear hr hn hnm hkd
  go_enter Tryz.func33, Tryz.ntmps33
  go_wp2_with fail
  go_still_tail 20, (by kernel_rfl)
  change wpList _ _ _ _ _ w.drew
  go_wp2_with fail
  refine (refuse_no _).mono ?_
  rintro e w1 ⟨rfl, rfl⟩
  clear n0 n1 k2
  obtain ⟨V, hV⟩ : ∃ V, V = w.drew := ⟨_, rfl⟩
  rw [← hV]
  have hbV : Below w.heap.size w V := by rw [hV]; exact (Below.refl _ _).drew
  have hrV := HR.out.below hbV HR.out.lt
  have hnV := HN.out.below hbV HN.out.lt
  have k0 := hrV.cell 0 (by simp [Tm.hdCells_len]); have k3 := hrV.cell 3 (by simp [Tm.hdCells_len]); have n6 := hnV.cell 6 (by simp [ndCells])
  simp only [Tm.hdCells, hk, Tm.kindN, Tm.kindT, ndCells, List.getElem_cons_zero, List.getElem_cons_succ, Nat.add_zero] at k0 k3 n6
  have hfl := HFL.out
  have hSS : ∀ W, Below V.heap.size V W → W.cell? ⟨g, o + 3, none⟩ = some (.string (bstr t.name)) ∧ (Instr.lookup 59 (.map (some fb)) (.string (bstr t.name)) false).run Tryz.prog W = .ok (.slice ga t.items.len cap) W ∧ W.cell? ⟨gn, on + 6, none⟩ = some (.slice gk d.kids.len gcap) ∧ Hid (Below V.heap.size V W) := by
    intro W hb
    exact ⟨(hb.cell (World.block_lt_of_cell? _ _ k3)).trans k3, HLK.out W ((hb.block _ (Nat.lt_of_lt_of_le hfl hbV.size)).trans (hbV.block _ hfl)), (hb.cell (World.block_lt_of_cell? _ _ n6)).trans n6, Lib.hid hb⟩
  have hS1 := hSS V.drew (Below.refl _ _).drew
  have HSS := Lib.hid hSS
  have HBV := Lib.hid hbV
  have HC2 := Lib.hid (fun W (hW : Below V.heap.size V W) => HC.out W (hbV.trans (hW.mono hbV.size)))
  clear hV hbV hrV hnV hSS k3 n6 hfl
  go_wp2_with fail
  go_region_held3 (fun W => W.cell? ⟨g, o + 3, none⟩ = some (.string (bstr t.name)) ∧ (Instr.lookup 59 (.map (some fb)) (.string (bstr t.name)) false).run Tryz.prog W = .ok (.slice ga t.items.len cap) W ∧ W.cell? ⟨gn, on + 6, none⟩ = some (.slice gk d.kids.len gcap) ∧ Hid (Below V.heap.size V W))
    (first
      | exact hS1
      | assumption)
    (first
      | (go_at_call 68; (with_reducible refine (HC2.out _ ?_).mono ?_); (next => exact (Below.refl _ _).drew); (rintro e w6 ⟨hb6, rfl⟩); (have hS6 := HSS.out w6 (Below.trans (Below.refl V.heap.size V).drew hb6))))
  all_goals
    go_wp2_with fail
    go_ret
    exact ⟨HBV.out.trans (hS6.2.2.2.out.mono HBV.out.size), rfl⟩
set_option maxRecDepth 100000 in
set_option maxHeartbeats 1000000 in
theorem onew_when (A : List Tm.Ty) (W : Wri) (body : Tm.Its) (hI : ItsWr A W body) (cv : Value) (gn on g o ai : Nat) (d : Nd) (u : Tm.Wd) (U w : World) (rb fb B gcap capi : Nat) (gi gk : Option Addr) (bs vs : List Value) (b1 : List Nat)
    (hU : Below U.heap.size U w) (hfm : FormM U w rb fb A) (hnm : d.name = []) (hkd : d.kind = 4) (hu : bodyW W body d.val d.kids = some u) (hoi : Owns U (rb + 1) 70 13 gi body.len capi bs) (hen : Tm.EncI U rb body bs) (hr : RowAt w g o 70 (Tm.whenCells ai cv (.slice gi body.len capi))) (hn : RowAt w gn on 28 (ndCells d.name d.kind d.at_ d.size d.val d.text (.slice gk d.kids.len gcap)))
    (hok : d.kids.ok) (htot : d.kids.tot ≤ 1000000) (hkO : Owns w B 28 7 gk d.kids.len gcap vs) (hkE : EncN w B d.kids b1 vs) :
    Calls Tryz.prog 33 #[.map (some fb), .pointer (some ⟨g, o, none⟩), .pointer (some ⟨gn, on, none⟩)] w (WriteOut w u) := by
  have hC := fun X (hX : Below w.heap.size w X) (hv : itsW W body d.kids = some u) => hI U X rb fb capi gcap B gi gk bs vs d.kids b1 u (hU.trans (hX.mono hU.size)) (hfm.keep (hX.block _ hfm.lt)) hoi hen (hkO.below hX (Nat.le_refl _)) (hkE.keep _ _ _ (fun b hb => hX.block b (hkE.mem _ _ _ b hb).2)) hok htot hv
  have HC := Lib.hid hC
  obtain ⟨dv, hdv⟩ : ∃ dv, dv = d.val := ⟨_, rfl⟩
  have HDV := Lib.hid hdv
  have HU := Lib.hid hu
  clear hC hoi hen hkO hkE hU hfm hu hdv
  have n0 := hn.cell 0 (by simp [ndCells]); have n1 := hn.cell 1 (by simp [ndCells])
  have k0 := hr.cell 0 (by simp [Tm.whenCells_len]); have k2 := hr.cell 2 (by simp [Tm.whenCells_len])
  simp only [ndCells, List.getElem_cons_zero, List.getElem_cons_succ, Nat.add_zero] at n0 n1
  simp only [Tm.whenCells, List.getElem_cons_zero, List.getElem_cons_succ, Nat.add_zero] at k0 k2
  have HR := Lib.hid hr; have HN := Lib.hid hn
  rw [hnm] at n0
  rw [hkd] at n1
  clear hr hn hnm hkd
  go_enter Tryz.func33, Tryz.ntmps33
  go_wp2_with fail
  go_still_tail 20, (by kernel_rfl)
  change wpList _ _ _ _ _ w.drew
  go_wp2_with fail
  refine (refuse_no _).mono ?_
  rintro e w1 ⟨rfl, rfl⟩
  clear n0 n1 k2
  obtain ⟨V, hV⟩ : ∃ V, V = w.drew := ⟨_, rfl⟩
  rw [← hV]
  have hbV : Below w.heap.size w V := by rw [hV]; exact (Below.refl _ _).drew
  have hrV := HR.out.below hbV HR.out.lt
  have hnV := HN.out.below hbV HN.out.lt
  have k0 := hrV.cell 0 (by simp [Tm.whenCells_len]); have k12 := hrV.cell 12 (by simp [Tm.whenCells_len]); have n4 := hnV.cell 4 (by simp [ndCells]); have n6 := hnV.cell 6 (by simp [ndCells])
  simp only [Tm.whenCells, ndCells, List.getElem_cons_zero, List.getElem_cons_succ, Nat.add_zero] at k0 k12 n4 n6
  rw [← HDV.out] at n4
  have HBV := Lib.hid hbV
  by_cases hv0 : dv = 0
  · have hk0 : d.kids = .nil ∧ u = [] := by
      have := HU.out
      unfold bodyW at this
      rw [← HDV.out, if_pos hv0] at this
      cases hk : d.kids with
      | nil => rw [hk] at this; injection this with h; exact ⟨rfl, h.symm⟩
      | cons => rw [hk] at this; cases this
    obtain ⟨hk1, rfl⟩ := hk0
    rw [hk1] at n6
    subst hv0
    have n6' : V.cell? ⟨gn, on + 6, none⟩ = some (.slice gk 0 gcap) := n6
    clear hV hbV hrV hnV n6 hk1
    go_wp2_with fail
    refine (refuse_no _).mono ?_
    rintro e w2 ⟨rfl, rfl⟩
    go_wp2_with fail
    go_ret
    exact ⟨HBV.out, rfl⟩
  · have hvd : decide (dv = 0) = false := decide_eq_false hv0
    have hvb : (dv == 0) = false := beq_eq_false_iff_ne.2 hv0
    have hv1 : itsW W body d.kids = some u := by
      have := HU.out
      unfold bodyW at this
      rw [← HDV.out, if_neg hv0] at this
      exact this
    have hSS : ∀ W, Below V.heap.size V W → W.cell? ⟨g, o + 12, none⟩ = some (.slice gi body.len capi) ∧ W.cell? ⟨gn, on + 6, none⟩ = some (.slice gk d.kids.len gcap) ∧ Hid (Below V.heap.size V W) := by
      intro W hb
      exact ⟨(hb.cell (World.block_lt_of_cell? _ _ k12)).trans k12, (hb.cell (World.block_lt_of_cell? _ _ n6)).trans n6, Lib.hid hb⟩
    have hS1 := hSS V.drew (Below.refl _ _).drew
    have HSS := Lib.hid hSS
    have HC2 := Lib.hid (fun W (hW : Below V.heap.size V W) => HC.out W (hbV.trans (hW.mono hbV.size)) hv1)
    clear hV hbV hrV hnV hSS k12 n6 hv0 hv1
    go_wp2_with fail
    go_region_held3 (fun W => W.cell? ⟨g, o + 12, none⟩ = some (.slice gi body.len capi) ∧ W.cell? ⟨gn, on + 6, none⟩ = some (.slice gk d.kids.len gcap) ∧ Hid (Below V.heap.size V W))
      (first
        | exact hS1
        | assumption)
      (first
        | (go_at_call 68; (with_reducible refine (HC2.out _ ?_).mono ?_); (next => exact (Below.refl _ _).drew); (rintro e w6 ⟨hb6, rfl⟩); (have hS6 := HSS.out w6 (Below.trans (Below.refl V.heap.size V).drew hb6))))
    all_goals
      go_wp2_with fail
      go_ret
      exact ⟨HBV.out.trans (hS6.2.2.out.mono HBV.out.size), rfl⟩
end Go.Proofs.YtlomecfhobehnaaGreatDoor
end
